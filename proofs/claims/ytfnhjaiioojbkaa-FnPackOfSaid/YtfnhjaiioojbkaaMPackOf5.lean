/- A part of the proof of FnPackOf: functions of the program, the reference and the law, each with what its call comes to. Conditions: those that each theorem names. -/
import Derived.Laws.BitsLemmas
import Derived.Test.YtfnhjaiioojbkaaMPackOf0
import Derived.Test.YtfnhjaiioojbkaaMPackOf1
import Derived.Test.YtfnhjaiioojbkaaMPackOf2
import Derived.Test.YtfnhjaiioojbkaaMPackOf3
import Derived.Test.YtfnhjaiioojbkaaMPackOf4
set_option linter.unusedVariables false
set_option linter.unusedSimpArgs false
section
namespace Go.Proofs.Ytfnhjaiioojbkaa.Q
open Go.RowKit Go.Proofs.YtfnhjaiioojbkaaW.PrintWords Go.Proofs.YtfnhjaiioojbkaaW.PrintLast Go.Proofs.YtfnhjaiioojbkaaW.PrintMore
attribute [local go_sem] max2_int min2_int max_two min_two max_three min_three max_four min_four   -- for this text's walks alone
set_option linter.unusedVariables false
set_option linter.unusedSimpArgs false
mutual
def laws_FnPackOf.j0 : Nat → List (List ByteArray) → List (S53) → Bool → Option (Bool)
 | 0, _, _, _ => none
 | k + 1, x3, x4, x25 => if x25 = true then ((spec_PackOf.f k x3).bind fun t896 => ((laws_smPack.f k x4 t896).bind fun t899 => (some t899))) else (laws_FnPackOf.l0 k x3 x4 0 0)
def laws_FnPackOf.l0 : Nat → List (List ByteArray) → List (S53) → Int → Int → Option (Bool)
 | 0, _, _, _, _ => none
 | k + 1, x3, x4, x5, x6 => if x6 < (x3.length : Int) then ((impl_PackGet.f k x4 x6).bind fun bt902 => (if bt902.2 = true then (if 0 ≤ x6 then ((laws_smTexts.f k bt902.1 (rd_L2 x3 x6)).bind fun t907 => (laws_FnPackOf.j2 k x3 x4 x5 x6 (!t907))) else (none)) else (laws_FnPackOf.j2 k x3 x4 x5 x6 true))) else ((impl_PackOk.f k x4).bind fun t900 => (if t900 = true then (if (x4.length : Int) = (x3.length : Int) then ((impl_PackSize.f k x4).bind fun t901 => (some (decide (t901 ≤ x5)))) else (some false)) else (some false)))
def laws_FnPackOf.j2 : Nat → List (List ByteArray) → List (S53) → Int → Int → Bool → Option (Bool)
 | 0, _, _, _, _, _ => none
 | k + 1, x3, x4, x5, x6, x52 => if x52 = true then (some false) else (if 0 ≤ x6 then (if x6 < (x3.length : Int) then (if ((rd_L2 x3 x6).length : Int) > 0 then (laws_FnPackOf.l0 k x3 x4 (wrap64 ((wrap64 (x5 + ((rd_L2 x3 x6).length : Int))) + 1)) (wrap64 (x6 + 1))) else (laws_FnPackOf.l0 k x3 x4 (wrap64 (x5 + ((rd_L2 x3 x6).length : Int))) (wrap64 (x6 + 1)))) else (none)) else (none))
end
def laws_FnPackOf.f (k : Nat) (l0 : List Int) : Option (Bool) := if (l0.length : Int) > 1048576 then (some true) else ((spec_DrawPackOf.f k l0).bind fun t886 => ((impl_PackOf.f k t886).bind fun t889 => ((spec_PackOf.f k t886).bind fun t892 => ((laws_smPack.f k t889 t892).bind fun t895 => (if t895 = true then (laws_FnPackOf.j0 k t886 t889 ((t889.length : Int) == 0)) else (laws_FnPackOf.j0 k t886 t889 true))))))
theorem laws_FnPackOf.mono_l : ∀ k, (∀ y0 y1 y2, LeO (laws_FnPackOf.j0 k y0 y1 y2) (laws_FnPackOf.j0 (k + 1) y0 y1 y2)) ∧ (∀ y0 y1 y2 y3, LeO (laws_FnPackOf.l0 k y0 y1 y2 y3) (laws_FnPackOf.l0 (k + 1) y0 y1 y2 y3)) ∧ (∀ y0 y1 y2 y3 y4, LeO (laws_FnPackOf.j2 k y0 y1 y2 y3 y4) (laws_FnPackOf.j2 (k + 1) y0 y1 y2 y3 y4))
 | 0 => ⟨fun _ _ _ r h => by simp [laws_FnPackOf.j0] at h, fun _ _ _ _ r h => by simp [laws_FnPackOf.l0] at h, fun _ _ _ _ _ r h => by simp [laws_FnPackOf.j2] at h⟩
 | k + 1 => by
  obtain ⟨ih0, ih1, ih2⟩ := laws_FnPackOf.mono_l k; refine ⟨?_, ?_, ?_⟩
  ·intro y0 y1 y2
   unfold laws_FnPackOf.j0
   repeat' first
   | (with_reducible exact ih0 _ _ _)
   | (with_reducible exact ih1 _ _ _ _)
   | (with_reducible exact ih2 _ _ _ _ _)
   | (with_reducible exact impl_PackGet.mono _ _ _)
   | (with_reducible exact impl_PackOf.mono _ _)
   | (with_reducible exact impl_PackOk.mono _ _)
   | (with_reducible exact impl_PackSize.mono _ _)
   | (with_reducible exact laws_smPack.mono _ _ _)
   | (with_reducible exact laws_smTexts.mono _ _ _)
   | (with_reducible exact spec_DrawPackOf.mono _ _)
   | (with_reducible exact spec_PackOf.mono _ _)
   | (with_reducible exact LeO.refl _)
   | (with_reducible exact LeO.none _)
   | (with_reducible refine LeO.ite ?_ ?_)
   | (with_reducible refine LeO.bind ?_ (fun _ => ?_))
   | exact ih0 _ _ _
   | exact ih1 _ _ _ _
   | exact ih2 _ _ _ _ _
   | exact impl_PackGet.mono _ _ _
   | exact impl_PackOf.mono _ _
   | exact impl_PackOk.mono _ _
   | exact impl_PackSize.mono _ _
   | exact laws_smPack.mono _ _ _
   | exact laws_smTexts.mono _ _ _
   | exact spec_DrawPackOf.mono _ _
   | exact spec_PackOf.mono _ _
   | exact LeO.none _
   | refine LeO.ite ?_ ?_
   | refine LeO.bind ?_ (fun _ => ?_)
  ·intro y0 y1 y2 y3
   unfold laws_FnPackOf.l0
   repeat' first
   | (with_reducible exact ih0 _ _ _)
   | (with_reducible exact ih1 _ _ _ _)
   | (with_reducible exact ih2 _ _ _ _ _)
   | (with_reducible exact impl_PackGet.mono _ _ _)
   | (with_reducible exact impl_PackOf.mono _ _)
   | (with_reducible exact impl_PackOk.mono _ _)
   | (with_reducible exact impl_PackSize.mono _ _)
   | (with_reducible exact laws_smPack.mono _ _ _)
   | (with_reducible exact laws_smTexts.mono _ _ _)
   | (with_reducible exact spec_DrawPackOf.mono _ _)
   | (with_reducible exact spec_PackOf.mono _ _)
   | (with_reducible exact LeO.refl _)
   | (with_reducible exact LeO.none _)
   | (with_reducible refine LeO.ite ?_ ?_)
   | (with_reducible refine LeO.bind ?_ (fun _ => ?_))
   | exact ih0 _ _ _
   | exact ih1 _ _ _ _
   | exact ih2 _ _ _ _ _
   | exact impl_PackGet.mono _ _ _
   | exact impl_PackOf.mono _ _
   | exact impl_PackOk.mono _ _
   | exact impl_PackSize.mono _ _
   | exact laws_smPack.mono _ _ _
   | exact laws_smTexts.mono _ _ _
   | exact spec_DrawPackOf.mono _ _
   | exact spec_PackOf.mono _ _
   | exact LeO.none _
   | refine LeO.ite ?_ ?_
   | refine LeO.bind ?_ (fun _ => ?_)
  ·intro y0 y1 y2 y3 y4
   unfold laws_FnPackOf.j2
   repeat' first
   | (with_reducible exact ih0 _ _ _)
   | (with_reducible exact ih1 _ _ _ _)
   | (with_reducible exact ih2 _ _ _ _ _)
   | (with_reducible exact impl_PackGet.mono _ _ _)
   | (with_reducible exact impl_PackOf.mono _ _)
   | (with_reducible exact impl_PackOk.mono _ _)
   | (with_reducible exact impl_PackSize.mono _ _)
   | (with_reducible exact laws_smPack.mono _ _ _)
   | (with_reducible exact laws_smTexts.mono _ _ _)
   | (with_reducible exact spec_DrawPackOf.mono _ _)
   | (with_reducible exact spec_PackOf.mono _ _)
   | (with_reducible exact LeO.refl _)
   | (with_reducible exact LeO.none _)
   | (with_reducible refine LeO.ite ?_ ?_)
   | (with_reducible refine LeO.bind ?_ (fun _ => ?_))
   | exact ih0 _ _ _
   | exact ih1 _ _ _ _
   | exact ih2 _ _ _ _ _
   | exact impl_PackGet.mono _ _ _
   | exact impl_PackOf.mono _ _
   | exact impl_PackOk.mono _ _
   | exact impl_PackSize.mono _ _
   | exact laws_smPack.mono _ _ _
   | exact laws_smTexts.mono _ _ _
   | exact spec_DrawPackOf.mono _ _
   | exact spec_PackOf.mono _ _
   | exact LeO.none _
   | refine LeO.ite ?_ ?_
   | refine LeO.bind ?_ (fun _ => ?_)
theorem laws_FnPackOf.mono : ∀ a0 k, LeO (laws_FnPackOf.f k a0) (laws_FnPackOf.f (k + 1) a0) := by
 intro a0 k; obtain ⟨ih0, ih1, ih2⟩ := laws_FnPackOf.mono_l k
 unfold laws_FnPackOf.f
 repeat' first
  | (with_reducible exact ih0 _ _ _)
  | (with_reducible exact ih1 _ _ _ _)
  | (with_reducible exact ih2 _ _ _ _ _)
  | (with_reducible exact impl_PackGet.mono _ _ _)
  | (with_reducible exact impl_PackOf.mono _ _)
  | (with_reducible exact impl_PackOk.mono _ _)
  | (with_reducible exact impl_PackSize.mono _ _)
  | (with_reducible exact laws_smPack.mono _ _ _)
  | (with_reducible exact laws_smTexts.mono _ _ _)
  | (with_reducible exact spec_DrawPackOf.mono _ _)
  | (with_reducible exact spec_PackOf.mono _ _)
  | (with_reducible exact LeO.refl _)
  | (with_reducible exact LeO.none _)
  | (with_reducible refine LeO.ite ?_ ?_)
  | (with_reducible refine LeO.bind ?_ (fun _ => ?_))
  | exact ih0 _ _ _
  | exact ih1 _ _ _ _
  | exact ih2 _ _ _ _ _
  | exact impl_PackGet.mono _ _ _
  | exact impl_PackOf.mono _ _
  | exact impl_PackOk.mono _ _
  | exact impl_PackSize.mono _ _
  | exact laws_smPack.mono _ _ _
  | exact laws_smTexts.mono _ _ _
  | exact spec_DrawPackOf.mono _ _
  | exact spec_PackOf.mono _ _
  | exact LeO.none _
  | refine LeO.ite ?_ ?_
  | refine LeO.bind ?_ (fun _ => ?_)
set_option maxHeartbeats 8000000 in
set_option maxRecDepth 100000 in
theorem laws_FnPackOf.calls (k : Nat) (A0 : Option Addr) (c0 : Nat) (l0 : List Int) (r : Bool) (w : World) (hr0 : Kd.C (Kd.int .u8) w A0 l0.length l0) (hc0 : l0.length ≤ c0) (h : laws_FnPackOf.f k l0 = some r) :
 Calls Try.prog 10 #[.slice A0 l0.length c0] w fun e w' => e = .returned (.bool r) ∧ Below w.heap.size w w' := by
 have HR0 := Aside0.mk hr0; have HC0 := Aside0.mk hc0; clear hr0 hc0; have HB := Aside0.mk (Below.refl w.heap.size w); have H : (if (l0.length : Int) > 1048576 then (some true) else ((spec_DrawPackOf.f k l0).bind fun t886 => ((impl_PackOf.f k t886).bind fun t889 => ((spec_PackOf.f k t886).bind fun t892 => ((laws_smPack.f k t889 t892).bind fun t895 => (if t895 = true then (laws_FnPackOf.j0 k t886 t889 ((t889.length : Int) == 0)) else (laws_FnPackOf.j0 k t886 t889 true))))))) = some r := h; clear h; by_cases c2 : (l0.length : Int) > 1048576
 ·rw [if_pos c2] at H; have c2b0 : decide (1048576 < (l0.length : Int)) = true := decide_eq_true c2; have c2b1 : decide (1048576 < l0.length) = true := decide_eq_true (by omega); clear c2; obtain rfl := Option.some.inj H; go_enter Try.func10, Try.ntmps10; go_wp2; go_ret; exact ⟨by first | rfl | (simp <;> rfl) | (simp [*] <;> rfl), by repeat (first | (with_reducible first | exact HB.out | apply below_alloc | apply pw_below_drewN | apply below_drew1) | exact HB.out)⟩
 ·rw [if_neg c2] at H; have c2b0 : decide (1048576 < (l0.length : Int)) = false := decide_eq_false c2; have c2b1 : decide (1048576 < l0.length) = false := decide_eq_false (by omega); clear c2; replace H := Option.bind_eq_some_iff.mp H; obtain ⟨t886, A30, H⟩ := H; replace H : ((impl_PackOf.f k t886).bind fun t889 => ((spec_PackOf.f k t886).bind fun t892 => ((laws_smPack.f k t889 t892).bind fun t895 => (if t895 = true then (laws_FnPackOf.j0 k t886 t889 ((t889.length : Int) == 0)) else (laws_FnPackOf.j0 k t886 t889 true))))) = some r := H; have A3 := Aside0.mk A30; clear A30; replace H := Option.bind_eq_some_iff.mp H; obtain ⟨t889, A40, H⟩ := H; replace H : ((spec_PackOf.f k t886).bind fun t892 => ((laws_smPack.f k t889 t892).bind fun t895 => (if t895 = true then (laws_FnPackOf.j0 k t886 t889 ((t889.length : Int) == 0)) else (laws_FnPackOf.j0 k t886 t889 true)))) = some r := H; have A4 := Aside0.mk A40; clear A40; have HC5 := Aside0.mk H; clear H; go_enter Try.func10, Try.ntmps10; (go_upto_region 5 with (first | ((with_reducible refine gate_callee (f := 46) rfl ?_); refine goesL_ (some 13) rfl rfl Try.func46 (by kernel_rfl) rfl #[.slice A0 l0.length c0] rfl (by (try simp only [List.map_toArray, List.map_cons, List.map_nil]); first | done | rfl | (simp only [List.length_drop, List.length_take]; rfl)) ?_; (with_reducible refine (spec_DrawPackOf.calls k _ _ l0 t886 _ ?side1 ?side2 A3.out).mono ?_); (case side1 => repeat (first | exact HR0.out | (with_reducible refine Kd.C_alloc ?_ _) | (with_reducible refine Kd.C_drewN ?_ _) | (with_reducible refine Kd.C_drew ?_))); (case side2 => exact HC0.out); rintro e w6 ⟨v887, rfl, ho0, hb⟩; refine ⟨_, rfl, ?_⟩; have n0_ := Aside0.mk (Kd.S_lower ho0 (below_size (by repeat (first | (with_reducible first | exact HB.out | apply below_alloc | apply pw_below_drewN | apply below_drew1) | exact HB.out)))); have n1_ := Aside0.mk (below_step (by repeat (first | (with_reducible first | exact HB.out | apply below_alloc | apply pw_below_drewN | apply below_drew1) | exact HB.out)) hb); clear HB; have HO888 := n0_; have HB := n1_; clear n0_ n1_; (try clear hb); (try clear hb2); (try clear hk); (try clear hi); (try clear ho0); obtain ⟨Ao7, co7, eo7⟩ := Kd.S_slice HO888.out; subst eo7) | ((with_reducible refine gate_callee (f := 47) rfl ?_); refine goesL_ (some 15) rfl rfl Try.func47 (by kernel_rfl) rfl #[.slice Ao7 t886.length co7] rfl (by (try simp only [List.map_toArray, List.map_cons, List.map_nil]); first | done | rfl | (simp only [List.length_drop, List.length_take]; rfl)) ?_; (with_reducible refine (impl_PackOf.calls k _ _ t886 t889 _ ?side1 ?side2 A4.out).mono ?_); (case side1 => repeat (first | exact (Kd.S_reads' HO888.out).2.2 | (with_reducible refine Kd.C_alloc ?_ _) | (with_reducible refine Kd.C_drewN ?_ _) | (with_reducible refine Kd.C_drew ?_))); (case side2 => exact (Kd.S_reads' HO888.out).2.1); rintro e w8 ⟨v890, rfl, ho0, hb⟩; refine ⟨_, rfl, ?_⟩; have n0_ := Aside0.mk (Kd.S_below (by (with_reducible repeat (first | apply Kd.S_alloc | apply Kd.S_drewN | apply Kd.S_drew)); exact HO888.out) hb); have n1_ := Aside0.mk (Kd.R_lower ho0 (below_size (by repeat (first | (with_reducible first | exact HB.out | apply below_alloc | apply pw_below_drewN | apply below_drew1) | exact HB.out)))); have n2_ := Aside0.mk (below_step (by repeat (first | (with_reducible first | exact HB.out | apply below_alloc | apply pw_below_drewN | apply below_drew1) | exact HB.out)) hb); clear HO888; clear HB; have HO888 := n0_; have HO891 := n1_; have HB := n2_; clear n0_ n1_ n2_; (try clear hb); (try clear hb2); (try clear hk); (try clear hi); (try clear ho0))))
  (try simp only [Act.put, List.setIfInBounds_toArray, List.set_cons_zero, List.set_cons_succ])
  go_cut [25] (fun v25 wc => ∃ (kq : Nat) (x25_4 : Bool), v25 = .bool x25_4 ∧ Aside0 (laws_FnPackOf.j0 kq t886 t889 x25_4 = some r) ∧ Aside0 (kq ≤ k) ∧ Aside0 (Kd.S (Kd.slice 9 Kd.string) 30 wc w.heap.size (fun _ => True) (.slice Ao7 t886.length co7) t886) ∧ Aside0 (Kd.R k53 53 wc w.heap.size (fun _ => True) v890 t889) ∧ Aside0 (Below w.heap.size w wc))
  case first =>
   have H := HC5.out; clear HC5; replace H := Option.bind_eq_some_iff.mp H; obtain ⟨t892, A90, H⟩ := H; replace H : ((laws_smPack.f k t889 t892).bind fun t895 => (if t895 = true then (laws_FnPackOf.j0 k t886 t889 ((t889.length : Int) == 0)) else (laws_FnPackOf.j0 k t886 t889 true))) = some r := H; have A9 := Aside0.mk A90; clear A90; replace H := Option.bind_eq_some_iff.mp H; obtain ⟨t895, A100, H⟩ := H; replace H : (if t895 = true then (laws_FnPackOf.j0 k t886 t889 ((t889.length : Int) == 0)) else (laws_FnPackOf.j0 k t886 t889 true)) = some r := H; have A10 := Aside0.mk A100; clear A100; by_cases c11 : t895 = true
   ·subst c11; (have H1 : (laws_FnPackOf.j0 k t886 t889 ((t889.length : Int) == 0)) = some r := by rw [if_pos rfl] at H; exact H); clear H; have H := H1; clear H1; have H' := Aside0.mk H; clear H; go_wp2_with (first | ((with_reducible refine gate_callee (f := 49) rfl ?_); refine goesL_ (some 18) rfl rfl Try.func49 (by kernel_rfl) rfl #[.slice Ao7 t886.length co7] rfl (by (try simp only [List.map_toArray, List.map_cons, List.map_nil]); first | done | rfl | (simp only [List.length_drop, List.length_take]; rfl)) ?_; (with_reducible refine (spec_PackOf.calls k _ _ t886 t892 _ ?side1 ?side2 A9.out).mono ?_); (case side1 => repeat (first | exact (Kd.S_reads' HO888.out).2.2 | (with_reducible refine Kd.C_alloc ?_ _) | (with_reducible refine Kd.C_drewN ?_ _) | (with_reducible refine Kd.C_drew ?_))); (case side2 => exact (Kd.S_reads' HO888.out).2.1); rintro e w12 ⟨v893, rfl, ho0, hb⟩; refine ⟨_, rfl, ?_⟩; have n0_ := Aside0.mk (Kd.S_below (by (with_reducible repeat (first | apply Kd.S_alloc | apply Kd.S_drewN | apply Kd.S_drew)); exact HO888.out) hb); have n1_ := Aside0.mk (Kd.R_elder' (by (with_reducible repeat (first | apply Kd.R_alloc | apply Kd.R_drewN | apply Kd.R_drew)); exact HO891.out) (Kd.R_base ho0) hb); have n2_ := Aside0.mk (Kd.R_lower (Kd.R_new' ho0 (Kd.R_lt (by (with_reducible repeat (first | apply Kd.R_alloc | apply Kd.R_drewN | apply Kd.R_drew)); exact HO891.out))) (below_size (by repeat (first | (with_reducible first | exact HB.out | apply below_alloc | apply pw_below_drewN | apply below_drew1) | exact HB.out)))); have n3_ := Aside0.mk (below_step (by repeat (first | (with_reducible first | exact HB.out | apply below_alloc | apply pw_below_drewN | apply below_drew1) | exact HB.out)) hb); clear HO888; clear HO891; clear HB; have HO888 := n0_; have HO891 := n1_; have HO894 := n2_; have HB := n3_; clear n0_ n1_ n2_ n3_; (try clear hb); (try clear hb2); (try clear hk); (try clear hi); (try clear ho0); obtain ⟨Ao13, co13, eo13⟩ := Kd.R_slice HO891.out; subst eo13; obtain ⟨Ao14, co14, eo14⟩ := Kd.R_slice HO894.out; subst eo14) | ((with_reducible refine gate_callee (f := 48) rfl ?_); refine goesL_ (some 19) rfl rfl Try.func48 (by kernel_rfl) rfl #[.slice Ao13 t889.length co13, .slice Ao14 t892.length co14] rfl (by (try simp only [List.map_toArray, List.map_cons, List.map_nil]); first | done | rfl | (simp only [List.length_drop, List.length_take]; rfl)) ?_; (with_reducible refine (laws_smPack.calls k _ _ t889 _ _ t892 true _ ?side1 ?side2 ?side3 ?side4 A10.out).mono ?_); (case side1 => repeat (first | exact (Kd.R_reads' HO891.out).2.2 | (with_reducible refine Kd.C_alloc ?_ _) | (with_reducible refine Kd.C_drewN ?_ _) | (with_reducible refine Kd.C_drew ?_))); (case side2 => exact (Kd.R_reads' HO891.out).2.1); (case side3 => repeat (first | exact (Kd.R_reads' HO894.out).2.2 | (with_reducible refine Kd.C_alloc ?_ _) | (with_reducible refine Kd.C_drewN ?_ _) | (with_reducible refine Kd.C_drew ?_))); (case side4 => exact (Kd.R_reads' HO894.out).2.1); rintro e w15 ⟨rfl, hb⟩; refine ⟨_, rfl, ?_⟩; have n0_ := Aside0.mk (Kd.S_below (by (with_reducible repeat (first | apply Kd.S_alloc | apply Kd.S_drewN | apply Kd.S_drew)); exact HO888.out) hb); have n1_ := Aside0.mk (Kd.R_below (by (with_reducible repeat (first | apply Kd.R_alloc | apply Kd.R_drewN | apply Kd.R_drew)); exact HO891.out) hb); have n2_ := Aside0.mk (Kd.R_below (by (with_reducible repeat (first | apply Kd.R_alloc | apply Kd.R_drewN | apply Kd.R_drew)); exact HO894.out) hb); have n3_ := Aside0.mk (below_step (by repeat (first | (with_reducible first | exact HB.out | apply below_alloc | apply pw_below_drewN | apply below_drew1) | exact HB.out)) hb); clear HO888; clear HO891; clear HO894; clear HB; have HO888 := n0_; have HO891 := n1_; have HO894 := n2_; have HB := n3_; clear n0_ n1_ n2_ n3_; (try clear hb); (try clear hb2); (try clear hk); (try clear hi)))
    go_meet
    case rel => exact ⟨_, (((t889.length : Int) == 0)), (by first | rfl | (simp; done) | (simp [*]; done)), H', ⟨by first | omega | exact Nat.le_refl _⟩, ⟨by (with_reducible repeat (first | apply Kd.S_alloc | apply Kd.S_drewN | apply Kd.S_drew)); exact HO888.out⟩, ⟨by (with_reducible repeat (first | apply Kd.R_alloc | apply Kd.R_drewN | apply Kd.R_drew)); exact Kd.R_mono HO891.out (fun _ hk => trivial)⟩, ⟨by repeat (first | (with_reducible first | exact HB.out | apply below_alloc | apply pw_below_drewN | apply below_drew1) | exact HB.out)⟩⟩
   ·replace c11 := Bool.eq_false_iff.mpr c11; subst c11; (have H1 : (laws_FnPackOf.j0 k t886 t889 true) = some r := by rw [if_neg (show ¬ (false = true) by decide)] at H; exact H); clear H; have H := H1; clear H1; have H' := Aside0.mk H; clear H; go_wp2_with (first | ((with_reducible refine gate_callee (f := 49) rfl ?_); refine goesL_ (some 18) rfl rfl Try.func49 (by kernel_rfl) rfl #[.slice Ao7 t886.length co7] rfl (by (try simp only [List.map_toArray, List.map_cons, List.map_nil]); first | done | rfl | (simp only [List.length_drop, List.length_take]; rfl)) ?_; (with_reducible refine (spec_PackOf.calls k _ _ t886 t892 _ ?side1 ?side2 A9.out).mono ?_); (case side1 => repeat (first | exact (Kd.S_reads' HO888.out).2.2 | (with_reducible refine Kd.C_alloc ?_ _) | (with_reducible refine Kd.C_drewN ?_ _) | (with_reducible refine Kd.C_drew ?_))); (case side2 => exact (Kd.S_reads' HO888.out).2.1); rintro e w16 ⟨v893, rfl, ho0, hb⟩; refine ⟨_, rfl, ?_⟩; have n0_ := Aside0.mk (Kd.S_below (by (with_reducible repeat (first | apply Kd.S_alloc | apply Kd.S_drewN | apply Kd.S_drew)); exact HO888.out) hb); have n1_ := Aside0.mk (Kd.R_elder' (by (with_reducible repeat (first | apply Kd.R_alloc | apply Kd.R_drewN | apply Kd.R_drew)); exact HO891.out) (Kd.R_base ho0) hb); have n2_ := Aside0.mk (Kd.R_lower (Kd.R_new' ho0 (Kd.R_lt (by (with_reducible repeat (first | apply Kd.R_alloc | apply Kd.R_drewN | apply Kd.R_drew)); exact HO891.out))) (below_size (by repeat (first | (with_reducible first | exact HB.out | apply below_alloc | apply pw_below_drewN | apply below_drew1) | exact HB.out)))); have n3_ := Aside0.mk (below_step (by repeat (first | (with_reducible first | exact HB.out | apply below_alloc | apply pw_below_drewN | apply below_drew1) | exact HB.out)) hb); clear HO888; clear HO891; clear HB; have HO888 := n0_; have HO891 := n1_; have HO894 := n2_; have HB := n3_; clear n0_ n1_ n2_ n3_; (try clear hb); (try clear hb2); (try clear hk); (try clear hi); (try clear ho0); obtain ⟨Ao17, co17, eo17⟩ := Kd.R_slice HO891.out; subst eo17; obtain ⟨Ao18, co18, eo18⟩ := Kd.R_slice HO894.out; subst eo18) | ((with_reducible refine gate_callee (f := 48) rfl ?_); refine goesL_ (some 19) rfl rfl Try.func48 (by kernel_rfl) rfl #[.slice Ao17 t889.length co17, .slice Ao18 t892.length co18] rfl (by (try simp only [List.map_toArray, List.map_cons, List.map_nil]); first | done | rfl | (simp only [List.length_drop, List.length_take]; rfl)) ?_; (with_reducible refine (laws_smPack.calls k _ _ t889 _ _ t892 false _ ?side1 ?side2 ?side3 ?side4 A10.out).mono ?_); (case side1 => repeat (first | exact (Kd.R_reads' HO891.out).2.2 | (with_reducible refine Kd.C_alloc ?_ _) | (with_reducible refine Kd.C_drewN ?_ _) | (with_reducible refine Kd.C_drew ?_))); (case side2 => exact (Kd.R_reads' HO891.out).2.1); (case side3 => repeat (first | exact (Kd.R_reads' HO894.out).2.2 | (with_reducible refine Kd.C_alloc ?_ _) | (with_reducible refine Kd.C_drewN ?_ _) | (with_reducible refine Kd.C_drew ?_))); (case side4 => exact (Kd.R_reads' HO894.out).2.1); rintro e w19 ⟨rfl, hb⟩; refine ⟨_, rfl, ?_⟩; have n0_ := Aside0.mk (Kd.S_below (by (with_reducible repeat (first | apply Kd.S_alloc | apply Kd.S_drewN | apply Kd.S_drew)); exact HO888.out) hb); have n1_ := Aside0.mk (Kd.R_below (by (with_reducible repeat (first | apply Kd.R_alloc | apply Kd.R_drewN | apply Kd.R_drew)); exact HO891.out) hb); have n2_ := Aside0.mk (Kd.R_below (by (with_reducible repeat (first | apply Kd.R_alloc | apply Kd.R_drewN | apply Kd.R_drew)); exact HO894.out) hb); have n3_ := Aside0.mk (below_step (by repeat (first | (with_reducible first | exact HB.out | apply below_alloc | apply pw_below_drewN | apply below_drew1) | exact HB.out)) hb); clear HO888; clear HO891; clear HO894; clear HB; have HO888 := n0_; have HO891 := n1_; have HO894 := n2_; have HB := n3_; clear n0_ n1_ n2_ n3_; (try clear hb); (try clear hb2); (try clear hk); (try clear hi)))
    go_meet
    case rel => exact ⟨_, (true), (by first | rfl | (simp; done) | (simp [*]; done)), H', ⟨by first | omega | exact Nat.le_refl _⟩, ⟨by (with_reducible repeat (first | apply Kd.S_alloc | apply Kd.S_drewN | apply Kd.S_drew)); exact HO888.out⟩, ⟨by (with_reducible repeat (first | apply Kd.R_alloc | apply Kd.R_drewN | apply Kd.R_drew)); exact Kd.R_mono HO891.out (fun _ hk => trivial)⟩, ⟨by repeat (first | (with_reducible first | exact HB.out | apply below_alloc | apply pw_below_drewN | apply below_drew1) | exact HB.out)⟩⟩
  case rest =>
   clear HC5; (try clear c1); (try clear c2); (try clear c2b0); (try clear c2b1); (try clear p2); (try clear c4); (try clear c10); (try clear c11); obtain ⟨kq, x25_4, rfl, HA, HJ4, HO_3, HO_4, HB⟩ := hcut
   cases kq with
   | zero => exact absurd HA.out (by simp [laws_FnPackOf.j0])
   | succ kj4 =>
    have H := HA.out; clear HA; simp only [laws_FnPackOf.j0] at H; by_cases c20 : x25_4 = true
    ·subst c20; (have H1 : ((spec_PackOf.f kj4 t886).bind fun t896 => ((laws_smPack.f kj4 t889 t896).bind fun t899 => (some t899))) = some r := by rw [if_pos rfl] at H; exact H); clear H; have H := H1; clear H1; replace H := Option.bind_eq_some_iff.mp H; obtain ⟨t896, A210, H⟩ := H; replace H : ((laws_smPack.f kj4 t889 t896).bind fun t899 => (some t899)) = some r := H; have A21 := Aside0.mk A210; clear A210; replace H := Option.bind_eq_some_iff.mp H; obtain ⟨t899, A220, H⟩ := H; replace H : (some t899) = some r := H; have A22 := Aside0.mk A220; clear A220; obtain rfl := Option.some.inj H; go_wp2_with (first | ((with_reducible refine gate_callee (f := 49) rfl ?_); refine goesL_ (some 28) rfl rfl Try.func49 (by kernel_rfl) rfl #[.slice Ao7 t886.length co7] rfl (by (try simp only [List.map_toArray, List.map_cons, List.map_nil]); first | done | rfl | (simp only [List.length_drop, List.length_take]; rfl)) ?_; (with_reducible refine (spec_PackOf.calls kj4 _ _ t886 t896 _ ?side1 ?side2 A21.out).mono ?_); (case side1 => repeat (first | exact (Kd.S_reads' HO_3.out).2.2 | (with_reducible refine Kd.C_alloc ?_ _) | (with_reducible refine Kd.C_drewN ?_ _) | (with_reducible refine Kd.C_drew ?_))); (case side2 => exact (Kd.S_reads' HO_3.out).2.1); rintro e w23 ⟨v897, rfl, ho0, hb⟩; refine ⟨_, rfl, ?_⟩; have n0_ := Aside0.mk (Kd.S_below (by (with_reducible repeat (first | apply Kd.S_alloc | apply Kd.S_drewN | apply Kd.S_drew)); exact HO_3.out) hb); have n1_ := Aside0.mk (Kd.R_elder' (by (with_reducible repeat (first | apply Kd.R_alloc | apply Kd.R_drewN | apply Kd.R_drew)); exact HO_4.out) (Kd.R_base ho0) hb); have n2_ := Aside0.mk (Kd.R_lower (Kd.R_new' ho0 (Kd.R_lt (by (with_reducible repeat (first | apply Kd.R_alloc | apply Kd.R_drewN | apply Kd.R_drew)); exact HO_4.out))) (below_size (by repeat (first | (with_reducible first | exact HB.out | apply below_alloc | apply pw_below_drewN | apply below_drew1) | exact HB.out)))); have n3_ := Aside0.mk (below_step (by repeat (first | (with_reducible first | exact HB.out | apply below_alloc | apply pw_below_drewN | apply below_drew1) | exact HB.out)) hb); clear HO_3; clear HO_4; clear HB; have HO_3 := n0_; have HO_4 := n1_; have HO898 := n2_; have HB := n3_; clear n0_ n1_ n2_ n3_; (try clear hb); (try clear hb2); (try clear hk); (try clear hi); (try clear ho0); obtain ⟨Ao24, co24, eo24⟩ := Kd.R_slice HO_4.out; subst eo24; obtain ⟨Ao25, co25, eo25⟩ := Kd.R_slice HO898.out; subst eo25) | ((with_reducible refine gate_callee (f := 48) rfl ?_); refine goesL_ (some 29) rfl rfl Try.func48 (by kernel_rfl) rfl #[.slice Ao24 t889.length co24, .slice Ao25 t896.length co25] rfl (by (try simp only [List.map_toArray, List.map_cons, List.map_nil]); first | done | rfl | (simp only [List.length_drop, List.length_take]; rfl)) ?_; (with_reducible refine (laws_smPack.calls kj4 _ _ t889 _ _ t896 t899 _ ?side1 ?side2 ?side3 ?side4 A22.out).mono ?_); (case side1 => repeat (first | exact (Kd.R_reads' HO_4.out).2.2 | (with_reducible refine Kd.C_alloc ?_ _) | (with_reducible refine Kd.C_drewN ?_ _) | (with_reducible refine Kd.C_drew ?_))); (case side2 => exact (Kd.R_reads' HO_4.out).2.1); (case side3 => repeat (first | exact (Kd.R_reads' HO898.out).2.2 | (with_reducible refine Kd.C_alloc ?_ _) | (with_reducible refine Kd.C_drewN ?_ _) | (with_reducible refine Kd.C_drew ?_))); (case side4 => exact (Kd.R_reads' HO898.out).2.1); rintro e w26 ⟨rfl, hb⟩; refine ⟨_, rfl, ?_⟩; have n0_ := Aside0.mk (Kd.S_below (by (with_reducible repeat (first | apply Kd.S_alloc | apply Kd.S_drewN | apply Kd.S_drew)); exact HO_3.out) hb); have n1_ := Aside0.mk (Kd.R_below (by (with_reducible repeat (first | apply Kd.R_alloc | apply Kd.R_drewN | apply Kd.R_drew)); exact HO_4.out) hb); have n2_ := Aside0.mk (Kd.R_below (by (with_reducible repeat (first | apply Kd.R_alloc | apply Kd.R_drewN | apply Kd.R_drew)); exact HO898.out) hb); have n3_ := Aside0.mk (below_step (by repeat (first | (with_reducible first | exact HB.out | apply below_alloc | apply pw_below_drewN | apply below_drew1) | exact HB.out)) hb); clear HO_3; clear HO_4; clear HO898; clear HB; have HO_3 := n0_; have HO_4 := n1_; have HO898 := n2_; have HB := n3_; clear n0_ n1_ n2_ n3_; (try clear hb); (try clear hb2); (try clear hk); (try clear hi)))
     go_ret; exact ⟨by first | rfl | (simp <;> rfl) | (simp [*] <;> rfl), by repeat (first | (with_reducible first | exact HB.out | apply below_alloc | apply pw_below_drewN | apply below_drew1) | exact HB.out)⟩
    ·replace c20 := Bool.eq_false_iff.mpr c20; subst c20; (have H1 : (laws_FnPackOf.l0 kj4 t886 t889 0 0) = some r := by rw [if_neg (show ¬ (false = true) by decide)] at H; exact H); clear H; have H := H1; clear H1; have H' := Aside0.mk H; clear H; go_wp2; go_loopg [5, 6] kj4 (fun kq v5 v6 w' => ∃ (x5_2 : Int) (x6_2 : Int), v5 = .int .i64 x5_2 ∧ v6 = .int .i64 x6_2 ∧ Aside0 (laws_FnPackOf.l0 kq t886 t889 x5_2 x6_2 = some r) ∧ Aside0 (kq ≤ kj4) ∧ Aside0 (Kd.S (Kd.slice 9 Kd.string) 30 w' w.heap.size (fun _ => True) (.slice Ao7 t886.length co7) t886) ∧ Aside0 (Kd.R k53 53 w' w.heap.size (fun _ => True) v890 t889) ∧ Aside0 (Below w.heap.size w w'))
     case atStart => exact ⟨(0), (0), (by first | rfl | (simp; done) | (simp [*]; done)), (by first | rfl | (simp; done) | (simp [*]; done)), H', ⟨Nat.le_refl _⟩, ⟨by (with_reducible repeat (first | apply Kd.S_alloc | apply Kd.S_drewN | apply Kd.S_drew)); exact HO_3.out⟩, ⟨by (with_reducible repeat (first | apply Kd.R_alloc | apply Kd.R_drewN | apply Kd.R_drew)); exact HO_4.out⟩, ⟨by repeat (first | (with_reducible first | exact HB.out | apply below_alloc | apply pw_below_drewN | apply below_drew1) | exact HB.out)⟩⟩
     case round =>
      clear H'; (try clear c1); (try clear c2); (try clear c2b0); (try clear c2b1); (try clear p2); (try clear c4); (try clear c10); (try clear c11); (try clear c20); (try clear p2); obtain ⟨x5_2, x6_2, rfl, rfl, HA, HK2, HO_3, HO_4, HB⟩ := hrel
      cases gk with
      | zero => exact absurd HA.out (by simp [laws_FnPackOf.l0])
      | succ k2 =>
       have H := HA.out; clear HA; simp only [laws_FnPackOf.l0] at H; by_cases c27 : x6_2 < (t886.length : Int)
       ·rw [if_pos c27] at H; have c27b0 : decide (x6_2 < (t886.length : Int)) = true := decide_eq_true c27; clear c27; replace H := Option.bind_eq_some_iff.mp H; obtain ⟨⟨t902, t903⟩, A280, H⟩ := H; replace H : (if t903 = true then (if 0 ≤ x6_2 then ((laws_smTexts.f k2 t902 (rd_L2 t886 x6_2)).bind fun t907 => (laws_FnPackOf.j2 k2 t886 t889 x5_2 x6_2 (!t907))) else (none)) else (laws_FnPackOf.j2 k2 t886 t889 x5_2 x6_2 true)) = some r := H; have A28 := Aside0.mk A280; clear A280; have HC29 := Aside0.mk H; clear H; obtain ⟨Ao30, co30, eo30⟩ := Kd.R_slice HO_4.out; subst eo30; (go_upto_region 12 with (first | ((with_reducible refine gate_callee (f := 39) rfl ?_); refine goesL_ (some 39) rfl rfl Try.func39 (by kernel_rfl) rfl #[.slice Ao30 t889.length co30, .int .i64 x6_2] rfl (by (try simp only [List.map_toArray, List.map_cons, List.map_nil]); first | done | rfl | (simp only [List.length_drop, List.length_take]; rfl)) ?_; (with_reducible refine (impl_PackGet.calls k2 _ _ t889 x6_2 t902 t903 _ ?side1 ?side2 A28.out).mono ?_); (case side1 => repeat (first | exact (Kd.R_reads' HO_4.out).2.2 | (with_reducible refine Kd.C_alloc ?_ _) | (with_reducible refine Kd.C_drewN ?_ _) | (with_reducible refine Kd.C_drew ?_))); (case side2 => exact (Kd.R_reads' HO_4.out).2.1); rintro e w31 ⟨v904, rfl, ho0, hb⟩; refine ⟨_, rfl, ?_⟩; have n0_ := Aside0.mk (Kd.S_elder' (by (with_reducible repeat (first | apply Kd.S_alloc | apply Kd.S_drewN | apply Kd.S_drew)); exact HO_3.out) (Kd.R_base ho0) hb); have n1_ := Aside0.mk (Kd.R_elder' (by (with_reducible repeat (first | apply Kd.R_alloc | apply Kd.R_drewN | apply Kd.R_drew)); exact HO_4.out) (Kd.R_base ho0) hb); have n2_ := Aside0.mk (Kd.R_lower ho0 (below_size (by repeat (first | (with_reducible first | exact HB.out | apply below_alloc | apply pw_below_drewN | apply below_drew1) | exact HB.out)))); have n3_ := Aside0.mk (below_step (by repeat (first | (with_reducible first | exact HB.out | apply below_alloc | apply pw_below_drewN | apply below_drew1) | exact HB.out)) hb); clear HO_3; clear HO_4; clear HB; have HO_3 := n0_; have HO_4 := n1_; have HO905 := n2_; have HB := n3_; clear n0_ n1_ n2_ n3_; (try clear hb); (try clear hb2); (try clear hk); (try clear hi); (try clear ho0))))
        (try simp only [Act.put, List.setIfInBounds_toArray, List.set_cons_zero, List.set_cons_succ])
        go_cut [52] (fun v52 wc => ∃ (kq : Nat) (x52_28 : Bool), v52 = .bool x52_28 ∧ Aside0 (laws_FnPackOf.j2 kq t886 t889 x5_2 x6_2 x52_28 = some r) ∧ Aside0 (kq ≤ k2) ∧ Aside0 (Kd.S (Kd.slice 9 Kd.string) 30 wc w.heap.size (fun _ => True) (.slice Ao7 t886.length co7) t886) ∧ Aside0 (Kd.R k53 53 wc w.heap.size (fun _ => True) (.slice Ao30 t889.length co30) t889) ∧ Aside0 (Below w.heap.size w wc))
        case first =>
         have H := HC29.out; clear HC29; by_cases c32 : t903 = true
         ·subst c32; (have H1 : (if 0 ≤ x6_2 then ((laws_smTexts.f k2 t902 (rd_L2 t886 x6_2)).bind fun t907 => (laws_FnPackOf.j2 k2 t886 t889 x5_2 x6_2 (!t907))) else (none)) = some r := by rw [if_pos rfl] at H; exact H); clear H; have H := H1; clear H1; by_cases c33 : 0 ≤ x6_2
          ·rw [if_pos c33] at H; have c33b0 : decide (0 ≤ x6_2) = true := decide_eq_true c33; clear c33
           (first | rw [c33b0] | (simp only [i64_w, i32_w]; rw [c33b0]) | skip)
           replace H := Option.bind_eq_some_iff.mp H; obtain ⟨t907, A340, H⟩ := H; replace H : (laws_FnPackOf.j2 k2 t886 t889 x5_2 x6_2 (!t907)) = some r := H; have A34 := Aside0.mk A340; clear A340; have H' := Aside0.mk H; clear H; have p906 : 0 ≤ (x6_2 : Int) := of_decide_eq_true (by assumption); have q906 : x6_2 < (t886.length : Int) := of_decide_eq_true (by assumption); obtain ⟨ad906, A906_0, c906_0, e906, hx906_0, hl906_0, hi906_0⟩ := at_L2 (Kd.S_reads' HO_3.out).2.2 x6_2 p906 q906; cases e906; obtain ⟨ce906, hce906, hMe906, hcc906⟩ := Kd.S_get HO_3.out [] x6_2 p906 (by first | exact q906 | exact of_decide_eq_true (by assumption) | (have e_ := (Kd.S_reads' HO_3.out).1; omega)); obtain ⟨ve906_0, rfl, ge906_0⟩ := hMe906; have hv906_0 := hcc906 0 _ rfl; rw [Nat.add_zero, show ((Kd.slice 9 Kd.string)).sz = 1 from rfl, Nat.mul_one] at hv906_0; replace hv906_0 := Option.some.inj (hv906_0.symm.trans hx906_0); rw [hv906_0] at ge906_0; have HL906_0 := Aside0.mk (show Kd.R Kd.string 9 _ _ _ _ (rd_L2 t886 x6_2) from ge906_0); clear hv906_0 ge906_0; clear hcc906 hce906; have HR906_0 := Aside0.mk hi906_0; have HC906_0 := Aside0.mk hl906_0; clear hi906_0 hl906_0; replace p906 := eq_true p906; replace q906 := eq_true q906; obtain ⟨Ao35, co35, eo35⟩ := Kd.R_slice HO905.out; subst eo35; go_wp2_with (first | (go_at_call 26; (with_reducible refine (laws_smTexts.calls k2 _ _ t902 _ _ (rd_L2 t886 x6_2) t907 _ ?side1 ?side2 ?side3 ?side4 A34.out).mono ?_); (case side1 => repeat (first | exact (Kd.R_reads' HO905.out).2.2 | (with_reducible refine Kd.C_alloc ?_ _) | (with_reducible refine Kd.C_drewN ?_ _) | (with_reducible refine Kd.C_drew ?_))); (case side2 => exact (Kd.R_reads' HO905.out).2.1); (case side3 => repeat (first | exact (by repeat (first | (with_reducible exact HR906_0.out) | (with_reducible refine Kd.C_alloc ?_ _) | (with_reducible refine Kd.C_drewN ?_ _) | (with_reducible refine Kd.C_drew ?_) | exact HR906_0.out)) | (with_reducible refine Kd.C_alloc ?_ _) | (with_reducible refine Kd.C_drewN ?_ _) | (with_reducible refine Kd.C_drew ?_))); (case side4 => exact HC906_0.out); rintro e w' ⟨rfl, ⟨nd, rfl⟩⟩)); go_meet
           case rel => exact ⟨_, (!t907), (by first | rfl | (simp; done) | (simp [*]; done)), H', ⟨by have := HJ4.out; have := HK2.out; first | omega | exact Nat.le_refl _⟩, ⟨by (with_reducible repeat (first | apply Kd.S_alloc | apply Kd.S_drewN | apply Kd.S_drew)); exact Kd.S_mono HO_3.out (fun _ hk => trivial)⟩, ⟨by (with_reducible repeat (first | apply Kd.R_alloc | apply Kd.R_drewN | apply Kd.R_drew)); exact Kd.R_mono HO_4.out (fun _ hk => trivial)⟩, ⟨by repeat (first | (with_reducible first | exact HB.out | apply below_alloc | apply pw_below_drewN | apply below_drew1) | exact HB.out)⟩⟩
          ·rw [if_neg c33] at H; exact absurd H (by simp)
         ·replace c32 := Bool.eq_false_iff.mpr c32; subst c32; (have H1 : (laws_FnPackOf.j2 k2 t886 t889 x5_2 x6_2 true) = some r := by rw [if_neg (show ¬ (false = true) by decide)] at H; exact H); clear H; have H := H1; clear H1; have H' := Aside0.mk H; clear H; go_wp2; go_meet
          case rel => exact ⟨_, (true), (by first | rfl | (simp; done) | (simp [*]; done)), H', ⟨by have := HJ4.out; have := HK2.out; first | omega | exact Nat.le_refl _⟩, ⟨by (with_reducible repeat (first | apply Kd.S_alloc | apply Kd.S_drewN | apply Kd.S_drew)); exact Kd.S_mono HO_3.out (fun _ hk => trivial)⟩, ⟨by (with_reducible repeat (first | apply Kd.R_alloc | apply Kd.R_drewN | apply Kd.R_drew)); exact Kd.R_mono HO_4.out (fun _ hk => trivial)⟩, ⟨by repeat (first | (with_reducible first | exact HB.out | apply below_alloc | apply pw_below_drewN | apply below_drew1) | exact HB.out)⟩⟩
        case rest =>
         clear HC29; (try clear c1); (try clear c2); (try clear c2b0); (try clear c2b1); (try clear p2); (try clear c3); (try clear c4); (try clear c9); (try clear p9); (try clear q9); (try clear hx9); (try clear c10); (try clear c11); (try clear c20); (try clear c27); (try clear c27b0); (try clear c32); (try clear c33); (try clear c33b0); (try clear hx906_0); (try clear p2); (try clear p906); (try clear q906); obtain ⟨kq, x52_28, rfl, HA, HJ28, HO_3, HO_4, HB⟩ := hcut
         cases kq with
         | zero => exact absurd HA.out (by simp [laws_FnPackOf.j2])
         | succ kj28 =>
          have H := HA.out; clear HA; simp only [laws_FnPackOf.j2] at H; by_cases c36 : x52_28 = true
          ·subst c36; (have H1 : (some false) = some r := by rw [if_pos rfl] at H; exact H); clear H; have H := H1; clear H1; obtain rfl := Option.some.inj H; go_wp2; go_ret; exact ⟨by first | rfl | (simp <;> rfl) | (simp [*] <;> rfl), by repeat (first | (with_reducible first | exact HB.out | apply below_alloc | apply pw_below_drewN | apply below_drew1) | exact HB.out)⟩
          ·replace c36 := Bool.eq_false_iff.mpr c36; subst c36; (have H1 : (if 0 ≤ x6_2 then (if x6_2 < (t886.length : Int) then (if ((rd_L2 t886 x6_2).length : Int) > 0 then (laws_FnPackOf.l0 kj28 t886 t889 (wrap64 ((wrap64 (x5_2 + ((rd_L2 t886 x6_2).length : Int))) + 1)) (wrap64 (x6_2 + 1))) else (laws_FnPackOf.l0 kj28 t886 t889 (wrap64 (x5_2 + ((rd_L2 t886 x6_2).length : Int))) (wrap64 (x6_2 + 1)))) else (none)) else (none)) = some r := by rw [if_neg (show ¬ (false = true) by decide)] at H; exact H); clear H; have H := H1; clear H1; by_cases c37 : 0 ≤ x6_2
           ·rw [if_pos c37] at H; have c37b0 : decide (0 ≤ x6_2) = true := decide_eq_true c37; clear c37; by_cases c38 : x6_2 < (t886.length : Int)
            ·rw [if_pos c38] at H; have c38b0 : decide (x6_2 < (t886.length : Int)) = true := decide_eq_true c38; clear c38; by_cases c39 : ((rd_L2 t886 x6_2).length : Int) > 0
             ·rw [if_pos c39] at H; have c39b0 : decide (0 < ((rd_L2 t886 x6_2).length : Int)) = true := decide_eq_true c39; have c39b1 : decide (0 < (rd_L2 t886 x6_2).length) = true := decide_eq_true (by omega); clear c39; have H' := Aside0.mk H; clear H; have p908 : 0 ≤ (x6_2 : Int) := of_decide_eq_true (by assumption); have q908 : x6_2 < (t886.length : Int) := of_decide_eq_true (by assumption); obtain ⟨ad908, A908_0, c908_0, e908, hx908_0, hl908_0, hi908_0⟩ := at_L2 (Kd.S_reads' HO_3.out).2.2 x6_2 p908 q908; cases e908; obtain ⟨ce908, hce908, hMe908, hcc908⟩ := Kd.S_get HO_3.out [] x6_2 p908 (by first | exact q908 | exact of_decide_eq_true (by assumption) | (have e_ := (Kd.S_reads' HO_3.out).1; omega)); obtain ⟨ve908_0, rfl, ge908_0⟩ := hMe908; have hv908_0 := hcc908 0 _ rfl; rw [Nat.add_zero, show ((Kd.slice 9 Kd.string)).sz = 1 from rfl, Nat.mul_one] at hv908_0; replace hv908_0 := Option.some.inj (hv908_0.symm.trans hx908_0); rw [hv908_0] at ge908_0; have HL908_0 := Aside0.mk (show Kd.R Kd.string 9 _ _ _ _ (rd_L2 t886 x6_2) from ge908_0); clear hv908_0 ge908_0; clear hcc908 hce908; have HR908_0 := Aside0.mk hi908_0; have HC908_0 := Aside0.mk hl908_0; clear hi908_0 hl908_0; replace p908 := eq_true p908; replace q908 := eq_true q908; have p909 : 0 ≤ (x6_2 : Int) := of_decide_eq_true (by assumption); have q909 : x6_2 < (t886.length : Int) := of_decide_eq_true (by assumption); obtain ⟨ad909, A909_0, c909_0, e909, hx909_0, hl909_0, hi909_0⟩ := at_L2 (Kd.S_reads' HO_3.out).2.2 x6_2 p909 q909; obtain rfl : ad908 = ad909 := (by injection e909); obtain ⟨ce909, hce909, hMe909, hcc909⟩ := Kd.S_get HO_3.out [] x6_2 p909 (by first | exact q909 | exact of_decide_eq_true (by assumption) | (have e_ := (Kd.S_reads' HO_3.out).1; omega)); obtain ⟨ve909_0, rfl, ge909_0⟩ := hMe909; have hv909_0 := hcc909 0 _ rfl; rw [Nat.add_zero, show ((Kd.slice 9 Kd.string)).sz = 1 from rfl, Nat.mul_one] at hv909_0; replace hv909_0 := Option.some.inj (hv909_0.symm.trans hx909_0); rw [hv909_0] at ge909_0; have HL909_0 := Aside0.mk (show Kd.R Kd.string 9 _ _ _ _ (rd_L2 t886 x6_2) from ge909_0); clear hv909_0 ge909_0; clear hcc909 hce909; have HR909_0 := Aside0.mk hi909_0; have HC909_0 := Aside0.mk hl909_0; clear hi909_0 hl909_0; replace p909 := eq_true p909; replace q909 := eq_true q909; have ea_ := Option.some.inj (hx908_0.symm.trans hx909_0); (injection ea_ with ea_ en_ ec_); subst ea_; subst ec_; clear en_; go_wp2; go_roundg kj28
              case measure => have := HJ4.out; have := HK2.out; have := HJ28.out; omega
              case rel => exact ⟨(wrap64 ((wrap64 (x5_2 + ((rd_L2 t886 x6_2).length : Int))) + 1)), (wrap64 (x6_2 + 1)), (by first | rfl | (simp; done) | (simp [*]; done)), (by first | rfl | (simp; done) | (simp [*]; done)), H', ⟨by have := HJ4.out; have := HK2.out; have := HJ28.out; omega⟩, ⟨by (with_reducible repeat (first | apply Kd.S_alloc | apply Kd.S_drewN | apply Kd.S_drew)); exact HO_3.out⟩, ⟨by (with_reducible repeat (first | apply Kd.R_alloc | apply Kd.R_drewN | apply Kd.R_drew)); exact HO_4.out⟩, ⟨by repeat (first | (with_reducible first | exact HB.out | apply below_alloc | apply pw_below_drewN | apply below_drew1) | exact HB.out)⟩⟩
             ·rw [if_neg c39] at H; have c39b0 : decide (0 < ((rd_L2 t886 x6_2).length : Int)) = false := decide_eq_false c39; have c39b1 : decide (0 < (rd_L2 t886 x6_2).length) = false := decide_eq_false (by omega); clear c39; have H' := Aside0.mk H; clear H; have p908 : 0 ≤ (x6_2 : Int) := of_decide_eq_true (by assumption); have q908 : x6_2 < (t886.length : Int) := of_decide_eq_true (by assumption); obtain ⟨ad908, A908_0, c908_0, e908, hx908_0, hl908_0, hi908_0⟩ := at_L2 (Kd.S_reads' HO_3.out).2.2 x6_2 p908 q908; cases e908; obtain ⟨ce908, hce908, hMe908, hcc908⟩ := Kd.S_get HO_3.out [] x6_2 p908 (by first | exact q908 | exact of_decide_eq_true (by assumption) | (have e_ := (Kd.S_reads' HO_3.out).1; omega)); obtain ⟨ve908_0, rfl, ge908_0⟩ := hMe908; have hv908_0 := hcc908 0 _ rfl; rw [Nat.add_zero, show ((Kd.slice 9 Kd.string)).sz = 1 from rfl, Nat.mul_one] at hv908_0; replace hv908_0 := Option.some.inj (hv908_0.symm.trans hx908_0); rw [hv908_0] at ge908_0; have HL908_0 := Aside0.mk (show Kd.R Kd.string 9 _ _ _ _ (rd_L2 t886 x6_2) from ge908_0); clear hv908_0 ge908_0; clear hcc908 hce908; have HR908_0 := Aside0.mk hi908_0; have HC908_0 := Aside0.mk hl908_0; clear hi908_0 hl908_0; replace p908 := eq_true p908; replace q908 := eq_true q908; have p909 : 0 ≤ (x6_2 : Int) := of_decide_eq_true (by assumption); have q909 : x6_2 < (t886.length : Int) := of_decide_eq_true (by assumption); obtain ⟨ad909, A909_0, c909_0, e909, hx909_0, hl909_0, hi909_0⟩ := at_L2 (Kd.S_reads' HO_3.out).2.2 x6_2 p909 q909; obtain rfl : ad908 = ad909 := (by injection e909); obtain ⟨ce909, hce909, hMe909, hcc909⟩ := Kd.S_get HO_3.out [] x6_2 p909 (by first | exact q909 | exact of_decide_eq_true (by assumption) | (have e_ := (Kd.S_reads' HO_3.out).1; omega)); obtain ⟨ve909_0, rfl, ge909_0⟩ := hMe909; have hv909_0 := hcc909 0 _ rfl; rw [Nat.add_zero, show ((Kd.slice 9 Kd.string)).sz = 1 from rfl, Nat.mul_one] at hv909_0; replace hv909_0 := Option.some.inj (hv909_0.symm.trans hx909_0); rw [hv909_0] at ge909_0; have HL909_0 := Aside0.mk (show Kd.R Kd.string 9 _ _ _ _ (rd_L2 t886 x6_2) from ge909_0); clear hv909_0 ge909_0; clear hcc909 hce909; have HR909_0 := Aside0.mk hi909_0; have HC909_0 := Aside0.mk hl909_0; clear hi909_0 hl909_0; replace p909 := eq_true p909; replace q909 := eq_true q909; have ea_ := Option.some.inj (hx908_0.symm.trans hx909_0); (injection ea_ with ea_ en_ ec_); subst ea_; subst ec_; clear en_; go_wp2; go_roundg kj28
              case measure => have := HJ4.out; have := HK2.out; have := HJ28.out; omega
              case rel => exact ⟨(wrap64 (x5_2 + ((rd_L2 t886 x6_2).length : Int))), (wrap64 (x6_2 + 1)), (by first | rfl | (simp; done) | (simp [*]; done)), (by first | rfl | (simp; done) | (simp [*]; done)), H', ⟨by have := HJ4.out; have := HK2.out; have := HJ28.out; omega⟩, ⟨by (with_reducible repeat (first | apply Kd.S_alloc | apply Kd.S_drewN | apply Kd.S_drew)); exact HO_3.out⟩, ⟨by (with_reducible repeat (first | apply Kd.R_alloc | apply Kd.R_drewN | apply Kd.R_drew)); exact HO_4.out⟩, ⟨by repeat (first | (with_reducible first | exact HB.out | apply below_alloc | apply pw_below_drewN | apply below_drew1) | exact HB.out)⟩⟩
            ·rw [if_neg c38] at H; exact absurd H (by simp)
           ·rw [if_neg c37] at H; exact absurd H (by simp)
       ·rw [if_neg c27] at H; have c27b0 : decide (x6_2 < (t886.length : Int)) = false := decide_eq_false c27; clear c27; replace H := Option.bind_eq_some_iff.mp H; obtain ⟨t900, A400, H⟩ := H; replace H : (if t900 = true then (if (t889.length : Int) = (t886.length : Int) then ((impl_PackSize.f k2 t889).bind fun t901 => (some (decide (t901 ≤ x5_2)))) else (some false)) else (some false)) = some r := H; have A40 := Aside0.mk A400; clear A400; by_cases c41 : t900 = true
        ·subst c41; (have H1 : (if (t889.length : Int) = (t886.length : Int) then ((impl_PackSize.f k2 t889).bind fun t901 => (some (decide (t901 ≤ x5_2)))) else (some false)) = some r := by rw [if_pos rfl] at H; exact H); clear H; have H := H1; clear H1; by_cases c42 : (t889.length : Int) = (t886.length : Int)
         ·rw [if_pos c42] at H; have c42b0 : ((t889.length : Int) == (t886.length : Int)) = true := beq_iff_eq.mpr c42; have c42b1 : ((t889.length : Int) != (t886.length : Int)) = false := bne_eq_false_iff_eq.mpr c42; (have c42b2 : (t889.length == t886.length) = true := by first | simpa using c42 | (simp at c42 ⊢; omega)); clear c42; replace H := Option.bind_eq_some_iff.mp H; obtain ⟨t901, A430, H⟩ := H; replace H : (some (decide (t901 ≤ x5_2))) = some r := H; have A43 := Aside0.mk A430; clear A430; obtain rfl := Option.some.inj H; obtain ⟨Ao44, co44, eo44⟩ := Kd.R_slice HO_4.out; subst eo44; go_wp2_with (first | ((with_reducible refine gate_callee (f := 41) rfl ?_); refine goesL_ (some 69) rfl rfl Try.func41 (by kernel_rfl) rfl #[.slice Ao44 t889.length co44] rfl (by (try simp only [List.map_toArray, List.map_cons, List.map_nil]); first | done | rfl | (simp only [List.length_drop, List.length_take]; rfl)) ?_; (with_reducible refine (impl_PackOk.calls k2 _ _ t889 true _ ?side1 ?side2 A40.out).mono ?_); (case side1 => repeat (first | exact (Kd.R_reads' HO_4.out).2.2 | (with_reducible refine Kd.C_alloc ?_ _) | (with_reducible refine Kd.C_drewN ?_ _) | (with_reducible refine Kd.C_drew ?_))); (case side2 => exact (Kd.R_reads' HO_4.out).2.1); rintro e w45 ⟨rfl, hb⟩; refine ⟨_, rfl, ?_⟩; have n0_ := Aside0.mk (Kd.S_below (by (with_reducible repeat (first | apply Kd.S_alloc | apply Kd.S_drewN | apply Kd.S_drew)); exact HO_3.out) hb); have n1_ := Aside0.mk (Kd.R_below (by (with_reducible repeat (first | apply Kd.R_alloc | apply Kd.R_drewN | apply Kd.R_drew)); exact HO_4.out) hb); have n2_ := Aside0.mk (below_step (by repeat (first | (with_reducible first | exact HB.out | apply below_alloc | apply pw_below_drewN | apply below_drew1) | exact HB.out)) hb); clear HO_3; clear HO_4; clear HB; have HO_3 := n0_; have HO_4 := n1_; have HB := n2_; clear n0_ n1_ n2_; (try clear hb); (try clear hb2); (try clear hk); (try clear hi)) | (go_at_call 44; (with_reducible refine (impl_PackSize.calls k2 _ _ t889 t901 _ ?side1 ?side2 A43.out).mono ?_); (case side1 => repeat (first | exact (Kd.R_reads' HO_4.out).2.2 | (with_reducible refine Kd.C_alloc ?_ _) | (with_reducible refine Kd.C_drewN ?_ _) | (with_reducible refine Kd.C_drew ?_))); (case side2 => exact (Kd.R_reads' HO_4.out).2.1); rintro e w46 ⟨rfl, hb⟩; have n0_ := Aside0.mk (Kd.S_below (by (with_reducible repeat (first | apply Kd.S_alloc | apply Kd.S_drewN | apply Kd.S_drew)); exact HO_3.out) hb); have n1_ := Aside0.mk (Kd.R_below (by (with_reducible repeat (first | apply Kd.R_alloc | apply Kd.R_drewN | apply Kd.R_drew)); exact HO_4.out) hb); have n2_ := Aside0.mk (below_step (by repeat (first | (with_reducible first | exact HB.out | apply below_alloc | apply pw_below_drewN | apply below_drew1) | exact HB.out)) hb); clear HO_3; clear HO_4; clear HB; have HO_3 := n0_; have HO_4 := n1_; have HB := n2_; clear n0_ n1_ n2_; (try clear hb); (try clear hb2); (try clear hk); (try clear hi))); go_ret; exact ⟨by first | rfl | (simp <;> rfl) | (simp [*] <;> rfl), by repeat (first | (with_reducible first | exact HB.out | apply below_alloc | apply pw_below_drewN | apply below_drew1) | exact HB.out)⟩
         ·rw [if_neg c42] at H; have c42b0 : ((t889.length : Int) == (t886.length : Int)) = false := beq_eq_false_iff_ne.mpr c42; have c42b1 : ((t889.length : Int) != (t886.length : Int)) = true := bne_iff_ne.mpr c42; (have c42b2 : (t889.length == t886.length) = false := by first | simpa using c42 | (simp at c42 ⊢; omega)); obtain rfl := Option.some.inj H; obtain ⟨Ao47, co47, eo47⟩ := Kd.R_slice HO_4.out; subst eo47; go_wp2_with (first | ((with_reducible refine gate_callee (f := 41) rfl ?_); refine goesL_ (some 69) rfl rfl Try.func41 (by kernel_rfl) rfl #[.slice Ao47 t889.length co47] rfl (by (try simp only [List.map_toArray, List.map_cons, List.map_nil]); first | done | rfl | (simp only [List.length_drop, List.length_take]; rfl)) ?_; (with_reducible refine (impl_PackOk.calls k2 _ _ t889 true _ ?side1 ?side2 A40.out).mono ?_); (case side1 => repeat (first | exact (Kd.R_reads' HO_4.out).2.2 | (with_reducible refine Kd.C_alloc ?_ _) | (with_reducible refine Kd.C_drewN ?_ _) | (with_reducible refine Kd.C_drew ?_))); (case side2 => exact (Kd.R_reads' HO_4.out).2.1); rintro e w48 ⟨rfl, hb⟩; refine ⟨_, rfl, ?_⟩; have n0_ := Aside0.mk (Kd.S_below (by (with_reducible repeat (first | apply Kd.S_alloc | apply Kd.S_drewN | apply Kd.S_drew)); exact HO_3.out) hb); have n1_ := Aside0.mk (Kd.R_below (by (with_reducible repeat (first | apply Kd.R_alloc | apply Kd.R_drewN | apply Kd.R_drew)); exact HO_4.out) hb); have n2_ := Aside0.mk (below_step (by repeat (first | (with_reducible first | exact HB.out | apply below_alloc | apply pw_below_drewN | apply below_drew1) | exact HB.out)) hb); clear HO_3; clear HO_4; clear HB; have HO_3 := n0_; have HO_4 := n1_; have HB := n2_; clear n0_ n1_ n2_; (try clear hb); (try clear hb2); (try clear hk); (try clear hi))); go_ret; exact ⟨by first | rfl | (simp <;> rfl) | (simp [*] <;> rfl), by repeat (first | (with_reducible first | exact HB.out | apply below_alloc | apply pw_below_drewN | apply below_drew1) | exact HB.out)⟩
        ·replace c41 := Bool.eq_false_iff.mpr c41; subst c41; (have H1 : (some false) = some r := by rw [if_neg (show ¬ (false = true) by decide)] at H; exact H); clear H; have H := H1; clear H1; obtain rfl := Option.some.inj H; obtain ⟨Ao49, co49, eo49⟩ := Kd.R_slice HO_4.out; subst eo49; go_wp2_with (first | ((with_reducible refine gate_callee (f := 41) rfl ?_); refine goesL_ (some 69) rfl rfl Try.func41 (by kernel_rfl) rfl #[.slice Ao49 t889.length co49] rfl (by (try simp only [List.map_toArray, List.map_cons, List.map_nil]); first | done | rfl | (simp only [List.length_drop, List.length_take]; rfl)) ?_; (with_reducible refine (impl_PackOk.calls k2 _ _ t889 false _ ?side1 ?side2 A40.out).mono ?_); (case side1 => repeat (first | exact (Kd.R_reads' HO_4.out).2.2 | (with_reducible refine Kd.C_alloc ?_ _) | (with_reducible refine Kd.C_drewN ?_ _) | (with_reducible refine Kd.C_drew ?_))); (case side2 => exact (Kd.R_reads' HO_4.out).2.1); rintro e w50 ⟨rfl, hb⟩; refine ⟨_, rfl, ?_⟩; have n0_ := Aside0.mk (Kd.S_below (by (with_reducible repeat (first | apply Kd.S_alloc | apply Kd.S_drewN | apply Kd.S_drew)); exact HO_3.out) hb); have n1_ := Aside0.mk (Kd.R_below (by (with_reducible repeat (first | apply Kd.R_alloc | apply Kd.R_drewN | apply Kd.R_drew)); exact HO_4.out) hb); have n2_ := Aside0.mk (below_step (by repeat (first | (with_reducible first | exact HB.out | apply below_alloc | apply pw_below_drewN | apply below_drew1) | exact HB.out)) hb); clear HO_3; clear HO_4; clear HB; have HO_3 := n0_; have HO_4 := n1_; have HB := n2_; clear n0_ n1_ n2_; (try clear hb); (try clear hb2); (try clear hk); (try clear hi))); go_ret; exact ⟨by first | rfl | (simp <;> rfl) | (simp [*] <;> rfl), by repeat (first | (with_reducible first | exact HB.out | apply below_alloc | apply pw_below_drewN | apply below_drew1) | exact HB.out)⟩
/-- THE ONE PURE STATEMENT of laws_FnPackOf: yours. -/
def laws_FnPackOf.Pure : Prop := ∀ (l0 : List Int), l0.length ≤ maxLen → l0.length * 1 ≤ 140737488351232 → (∀ x ∈ l0, (Lit.int .u8 x).wf = true) → ∃ k, laws_FnPackOf.f k l0 = some true
theorem laws_FnPackOf.walk (P : laws_FnPackOf.Pure) (a0 : Option Addr) (len0 cap0 : Nat) (z0 : List Int) (w : World) (w0 : (a0 = none ∧ len0 = 0 ∧ cap0 = 0 ∧ z0 = []) ∨ ∃ x, a0 = some x ∧ len0 ≤ cap0 ∧ cap0 ≤ maxLen ∧ z0.length = cap0 ∧ (∀ i, i < z0.length → w.cell? (x.add i) = some (.int .u8 (z0.getD i 0))) ∧ ∀ n ∈ z0, (Lit.int .u8 n).wf = true) (y0 : len0 * 1 ≤ 140737488351232) :
 Calls Try.prog 10 #[.slice a0 len0 cap0] w fun e w' => e = .returned (.bool true) ∧ Below w.heap.size w w' := by
 obtain ⟨l0, rfl, hr0, hm0, hw0, hc0⟩ := ReadsInt.ofRowC w0; obtain ⟨k, h⟩ := P l0 hm0 y0 hw0; refine (laws_FnPackOf.calls k _ _ l0 true w (Kd.C_of_reads (d := (0 : Int)) (h1 := fun _ => rfl) hr0) hc0 h).mono ?_; rintro e w' ⟨rfl, hd⟩; exact ⟨rfl, hd⟩
end Go.Proofs.Ytfnhjaiioojbkaa.Q
end
section
namespace Go.Proofs.Ytfnhjaiioojbkaa.Q
open Go.RowKit Go.Proofs.YtfnhjaiioojbkaaW.PrintWords
set_option linter.unusedVariables false
theorem w64 {x : Int} (h0 : -9223372036854775808 ≤ x) (h1 : x ≤ 9223372036854775807) : wrap64 x = x := by unfold wrap64; omega
theorem w64_add (i n : Nat) (h : i + n ≤ 1000000000000) : wrap64 ((i : Int) + (n : Int)) = ((i + n : Nat) : Int) := by rw [w64 (by omega) (by omega)]; omega
theorem w64_succ (n : Nat) (h : n ≤ 1000000000000) : wrap64 ((n : Int) + 1) = ((n + 1 : Nat) : Int) := by rw [w64 (by omega) (by omega)]; omega
theorem EvT {α : Type} {g : Nat → Option α} {r r' : α} (h : Ev g r) (e : r = r') : Ev g r' := e ▸ h
theorem Ev.uniq {α : Type} {g : Nat → Option α} {r r' : α} (h : Ev g r) (h' : Ev g r') : r = r' := by
  obtain ⟨K, h⟩ := h
  obtain ⟨K', h'⟩ := h'
  have a := h (max K K') (by omega)
  have b := h' (max K K') (by omega)
  rw [a] at b
  exact Option.some.inj b
theorem Ev.posf {α : Type} {c : Prop} [Decidable c] {g f : Nat → Option α} {r : α} (hc : c) (h : Ev g r) : Ev (fun k => if c then g k else f k) r := by
  obtain ⟨K, h⟩ := h
  exact ⟨K, fun k hk => by show (if c then g k else f k) = _; rw [if_pos hc]; exact h k hk⟩
theorem Ev.negf {α : Type} {c : Prop} [Decidable c] {g f : Nat → Option α} {r : α} (hc : ¬ c) (h : Ev f r) : Ev (fun k => if c then g k else f k) r := by
  obtain ⟨K, h⟩ := h
  exact ⟨K, fun k hk => by show (if c then g k else f k) = _; rw [if_neg hc]; exact h k hk⟩
theorem Ev.ite {α : Type} {c : Prop} [Decidable c] {g f : Nat → Option α} {r : α} (h1 : c → Ev g r) (h2 : ¬ c → Ev f r) : Ev (fun k => if c then g k else f k) r :=
  if hc : c then Ev.posf hc (h1 hc) else Ev.negf hc (h2 hc)
theorem Ev.mapf {α β : Type} {g : Nat → Option α} {a : α} (f : α → β) (h : Ev g a) : Ev (fun k => (g k).map f) (f a) := by
  obtain ⟨K, h⟩ := h
  exact ⟨K, fun k hk => by show (g k).map f = _; rw [h k hk]; rfl⟩
theorem Ev.somef {α β : Type} {a : α} {f : Nat → α → Option β} {r : β} (h : Ev (fun k => f k a) r) : Ev (fun k => (some a).bind (f k)) r := h
/-- One round of a loop: simp only [F.l0] lays it open. -/
theorem Ev.step' {α : Type} {g : Nat → Option α} {r : α} (h : Ev (fun k => g (k + 1)) r) : Ev g r := Ev.step (fun _ => rfl) h
theorem bstr {a b : ByteArray} : a.toList = b.toList ↔ a = b := by
  constructor
  · intro h
    rw [ByteArray.toList_eq, ByteArray.toList_eq] at h
    cases a; cases b
    simp at h
    subst h
    rfl
  · rintro rfl; rfl
theorem rdAt {α : Type} {d : α} {xs : List α} {i : Nat} (h : i < xs.length) : rdOf d xs (i : Int) = xs[i] := by
  simp [rdOf, List.getD_eq_getElem?_getD, h]
theorem rdI {xs : List Int} {i : Nat} (h : i < xs.length) : rd xs (i : Int) = xs[i] := by
  simp [rd, List.getD_eq_getElem?_getD, h]
theorem toNat_of {i : Int} (h : 0 ≤ i) : ∃ n : Nat, i = n := ⟨i.toNat, by omega⟩
theorem xor_nn {x y : Int} (hx : 0 ≤ x) (hy : 0 ≤ y) (hx1 : x < 4611686018427387904) (hy1 : y < 4611686018427387904) : 0 ≤ Go.bits .xor .i64 x y ∧ Go.bits .xor .i64 x y < 4611686018427387904 := by
  obtain ⟨a, rfl⟩ := toNat_of hx
  obtain ⟨b, rfl⟩ := toNat_of hy
  have ha : a < 2 ^ 62 := by omega
  have hb : b < 2 ^ 62 := by omega
  have hab := Nat.xor_lt_two_pow ha hb
  have e : Go.bits .xor .i64 (a : Int) (b : Int) = ((a ^^^ b : Nat) : Int) := by
    have ha' : a % 2 ^ 64 = a := Nat.mod_eq_of_lt (by omega)
    have hb' : b % 2 ^ 64 = b := Nat.mod_eq_of_lt (by omega)
    simp only [Go.bits, IntKind.bits, BitVec.ofInt_natCast]
    have e2 : (BitVec.ofNat 64 a ^^^ BitVec.ofNat 64 b).toNat = a ^^^ b := by rw [BitVec.toNat_xor, BitVec.toNat_ofNat, BitVec.toNat_ofNat, ha', hb']
    rw [IntKind.wrap_i64]
    have e3 : (BitVec.ofNat IntKind.i64.bits a ^^^ BitVec.ofNat IntKind.i64.bits b).toNat = a ^^^ b := e2
    have e4 : ∀ q : Nat, q = a ^^^ b → ((q : Int) + 9223372036854775808) % 18446744073709551616 - 9223372036854775808 = ((a ^^^ b : Nat) : Int) := by intro q hq; rw [hq]; omega
    exact e4 _ e3
  rw [e]
  omega
/-- Lines that are not long. -/
def Sz (l : List ByteArray) : Prop := ∀ s ∈ l, s.size ≤ 100
theorem Sz.nil : Sz [] := fun s h => by cases h
theorem Sz.app {a b : List ByteArray} (h : Sz a) (k : Sz b) : Sz (a ++ b) := fun s hs => by
  rcases List.mem_append.mp hs with hs | hs
  · exact h s hs
  · exact k s hs
theorem Sz.one {s : ByteArray} (h : s.size ≤ 100) : Sz [s] := fun x hx => by
  rw [List.mem_singleton.mp hx]
  exact h
theorem Sz.sub {a b : List ByteArray} (h : Sz a) (k : ∀ s ∈ b, s ∈ a) : Sz b := fun s hs => h s (k s hs)
theorem Sz.take {a : List ByteArray} (h : Sz a) (n : Nat) : Sz (a.take n) := h.sub fun _ hs => List.mem_of_mem_take hs
theorem Sz.drop {a : List ByteArray} (h : Sz a) (n : Nat) : Sz (a.drop n) := h.sub fun _ hs => List.mem_of_mem_drop hs
theorem Sz.set {a : List ByteArray} (h : Sz a) (n : Nat) {s : ByteArray} (k : s.size ≤ 100) : Sz (a.set n s) := fun x hx => by
  rcases List.mem_or_eq_of_mem_set hx with hx | rfl
  · exact h x hx
  · exact k
end Go.Proofs.Ytfnhjaiioojbkaa.Q
end
section
namespace Go.Proofs.Ytfnhjaiioojbkaa.Q
open Go.RowKit Go.Proofs.YtfnhjaiioojbkaaW.PrintWords
set_option linter.unusedVariables false
set_option linter.unusedSimpArgs false
/-- A code: not long, of bytes. -/
def Code (b : List Int) : Prop := b.length ≤ 2000 ∧ ∀ x ∈ b, 0 ≤ x ∧ x ≤ 255
theorem Code.rd {b : List Int} (h : Code b) (i : Int) : 0 ≤ rd b i ∧ rd b i ≤ 255 := by
  show 0 ≤ b.getD i.toNat 0 ∧ b.getD i.toNat 0 ≤ 255
  rw [List.getD_eq_getElem?_getD]
  by_cases hi : i.toNat < b.length
  · simp [hi]
    exact h.2 _ (List.getElem_mem hi)
  · simp [hi]
/-- A place in a code that is far from the end of the numbers. -/
def Pl (p : Int) : Prop := 0 ≤ p ∧ p ≤ 1000000000
theorem tmod_in {x n : Int} (hx : 0 ≤ x) (hn : 1 ≤ n) : 0 ≤ Int.tmod x n ∧ Int.tmod x n < n := by
  rw [Int.tmod_eq_emod_of_nonneg hx]
  exact ⟨Int.emod_nonneg _ (by omega), Int.emod_lt_of_pos _ (by omega)⟩
theorem pick_ev {b : List Int} (hb : Code b) {p : Int} (hp : Pl p) {n : Int} (hn : n ≤ 1000000) :
    ∃ v, Ev (fun k => spec_l30Rd_pick.f k b p n) (v, p + 1) ∧ 0 ≤ v ∧ (1 ≤ n → v < n) := by
  have e1 : wrap64 (p + 1) = p + 1 := w64 (by have := hp.1; omega) (by have := hp.2; omega)
  have e2 : wrap64 (p + 1 - 1) = p := by rw [show p + 1 - 1 = p by omega]; exact w64 (by have := hp.1; omega) (by have := hp.2; omega)
  by_cases h1 : n < 1
  · refine ⟨0, ⟨1, fun k hk => ?_⟩, by omega, by omega⟩
    obtain ⟨m, rfl⟩ : ∃ m, k = m + 1 := ⟨k - 1, by omega⟩
    simp only [spec_l30Rd_pick.f]
    rw [if_pos h1]
    simp only [spec_l30Rd_pick.j0]
    rw [if_pos trivial, e1]
  · by_cases h2 : (b.length : Int) = 0
    · refine ⟨0, ⟨1, fun k hk => ?_⟩, by omega, by omega⟩
      obtain ⟨m, rfl⟩ : ∃ m, k = m + 1 := ⟨k - 1, by omega⟩
      simp only [spec_l30Rd_pick.f]
      rw [if_neg h1]
      simp only [spec_l30Rd_pick.j0]
      rw [if_pos (by simpa using h2), e1]
    · have hL1 : 1 ≤ (b.length : Int) := by omega
      have hL2 : (b.length : Int) ≤ 2000 := by have := hb.1; omega
      have e3 : wrap64 (p * 7) = p * 7 := w64 (by have := hp.1; omega) (by have := hp.2; omega)
      have e4 : wrap64 (p * 7 + 3) = p * 7 + 3 := w64 (by have := hp.1; omega) (by have := hp.2; omega)
      have m1 := tmod_in hp.1 hL1
      have m2 := tmod_in (x := p * 7 + 3) (by have := hp.1; omega) hL1
      by_cases h3 : p < (b.length : Int)
      · have hA := hb.rd p
        have e5 : wrap64 (rd b p) = rd b p := w64 (by omega) (by omega)
        have m3 := tmod_in hA.1 (n := n) (by omega)
        refine ⟨Int.tmod (rd b p) n, ⟨1, fun k hk => ?_⟩, m3.1, fun _ => m3.2⟩
        obtain ⟨m, rfl⟩ : ∃ m, k = m + 1 := ⟨k - 1, by omega⟩
        simp only [spec_l30Rd_pick.f]
        rw [if_neg h1]
        simp only [spec_l30Rd_pick.j0]
        rw [if_neg (by simpa using h2), e1, e2, if_pos h3, if_pos hp.1, if_neg (by omega), e5]
      · have hA := hb.rd (Int.tmod p b.length)
        have hB := hb.rd (Int.tmod (p * 7 + 3) b.length)
        have f1 : wrap64 (rd b (Int.tmod p b.length)) = rd b (Int.tmod p b.length) := w64 (by omega) (by omega)
        have f2 : wrap64 (rd b (Int.tmod (p * 7 + 3) b.length)) = rd b (Int.tmod (p * 7 + 3) b.length) := w64 (by omega) (by omega)
        have hD : 0 ≤ Int.tdiv p b.length ∧ Int.tdiv p b.length ≤ 1000000000 := by
          rw [Int.tdiv_eq_ediv_of_nonneg hp.1]
          exact ⟨Int.ediv_nonneg hp.1 (by omega), Int.le_trans (Int.ediv_le_self _ hp.1) hp.2⟩
        have g1 : wrap64 (rd b (Int.tmod p b.length) * 131) = rd b (Int.tmod p b.length) * 131 := w64 (by omega) (by omega)
        have g2 : wrap64 (rd b (Int.tmod (p * 7 + 3) b.length) * 1117) = rd b (Int.tmod (p * 7 + 3) b.length) * 1117 := w64 (by omega) (by omega)
        have g3 : wrap64 (p * 29) = p * 29 := w64 (by have := hp.1; omega) (by have := hp.2; omega)
        have g4 : wrap64 (Int.tdiv p b.length) = Int.tdiv p b.length := w64 (by omega) (by omega)
        have g5 : wrap64 (Int.tdiv p b.length * 53) = Int.tdiv p b.length * 53 := w64 (by omega) (by omega)
        have g6 : wrap64 (rd b (Int.tmod p b.length) * 131 + rd b (Int.tmod (p * 7 + 3) b.length) * 1117) = rd b (Int.tmod p b.length) * 131 + rd b (Int.tmod (p * 7 + 3) b.length) * 1117 := w64 (by omega) (by omega)
        have g7 : wrap64 (rd b (Int.tmod p b.length) * 131 + rd b (Int.tmod (p * 7 + 3) b.length) * 1117 + p * 29) = rd b (Int.tmod p b.length) * 131 + rd b (Int.tmod (p * 7 + 3) b.length) * 1117 + p * 29 := w64 (by have := hp.1; omega) (by have := hp.2; omega)
        obtain ⟨X, hX⟩ : ∃ X, X = rd b (Int.tmod p b.length) * 131 + rd b (Int.tmod (p * 7 + 3) b.length) * 1117 + p * 29 + Int.tdiv p b.length * 53 := ⟨_, rfl⟩
        have hX0 : 0 ≤ X ∧ X ≤ 1000000000000 := by have := hp.1; have := hp.2; omega
        have hY : 0 ≤ Int.tdiv X 64 ∧ Int.tdiv X 64 ≤ 1000000000000 := by
          rw [Int.tdiv_eq_ediv_of_nonneg hX0.1]
          omega
        have g8 : wrap64 X = X := w64 (by omega) (by omega)
        have g9 : wrap64 (Int.tdiv X 64) = Int.tdiv X 64 := w64 (by omega) (by omega)
        have hx := xor_nn hX0.1 hY.1 (by omega) (by omega)
        have m3 := tmod_in hx.1 (n := n) (by omega)
        refine ⟨Int.tmod (Go.bits .xor .i64 X (Int.tdiv X 64)) n, ⟨1, fun k hk => ?_⟩, m3.1, fun _ => m3.2⟩
        obtain ⟨m, rfl⟩ : ∃ m, k = m + 1 := ⟨k - 1, by omega⟩
        simp only [spec_l30Rd_pick.f]
        rw [if_neg h1]
        simp only [spec_l30Rd_pick.j0]
        rw [if_neg (by simpa using h2)]
        simp only [e1, e2, e3, e4, f1, f2, g1, g2, g3, g4, g5, g6, g7, g8, ← hX, g9]
        rw [if_neg h3, if_neg h2, if_pos m1.1, if_pos m1.2, if_pos m2.1, if_pos m2.2, if_neg (by omega)]
theorem of_ev {b : List Int} (hb : Code b) {p : Int} (hp : Pl p) {l : List ByteArray} (h0 : 0 < l.length) (hn : l.length ≤ 1000000) :
    ∃ s, Ev (fun k => spec_l30Rd_of.f k b p l) (s, p + 1) ∧ s ∈ l := by
  obtain ⟨v, hv, h1, h2⟩ := pick_ev hb hp (n := l.length) (by omega)
  obtain ⟨i, rfl⟩ := toNat_of h1
  have hi : i < l.length := by omega
  refine ⟨l[i], ?_, List.getElem_mem hi⟩
  unfold spec_l30Rd_of.f
  refine Ev.bind hv ?_
  refine Ev.posf h1 (Ev.posf (by show ((i : Int)) < _; omega) ?_)
  rw [rdAt hi]
  exact Ev.now _
theorem one_ev {b : List Int} (hb : Code b) {p : Int} (hp : Pl p) {l : List Int} (h0 : 0 < l.length) (hn : l.length ≤ 1000000) :
    ∃ s, Ev (fun k => spec_l30Rd_one.f k b p l) (s, p + 1) ∧ s ∈ l := by
  obtain ⟨v, hv, h1, h2⟩ := pick_ev hb hp (n := l.length) (by omega)
  obtain ⟨i, rfl⟩ := toNat_of h1
  have hi : i < l.length := by omega
  refine ⟨l[i], ?_, List.getElem_mem hi⟩
  unfold spec_l30Rd_one.f
  refine Ev.bind hv ?_
  refine Ev.posf h1 (Ev.posf (by show ((i : Int)) < _; omega) ?_)
  rw [rdI hi]
  exact Ev.now _
theorem line_ev {b : List Int} (hb : Code b) {p : Int} (hp : Pl p) : ∃ s, Ev (fun k => spec_l30Line.f k b p) (s, p + 1) ∧ s.size ≤ 100 := by
  unfold spec_l30Line.f
  obtain ⟨s, hs, hm⟩ := of_ev hb hp (l := [⟨#[97]⟩, ⟨#[98]⟩, ⟨#[99]⟩, ⟨#[100]⟩, ⟨#[]⟩, ⟨#[120, 32, 121]⟩, ⟨#[115, 101, 101, 32, 97]⟩, ⟨#[115, 101, 101, 32, 100, 47, 101]⟩, ⟨#[101, 110, 100]⟩]) (by simp) (by simp)
  refine ⟨s, Ev.bind hs (Ev.now _), ?_⟩
  simp only [List.mem_cons, List.not_mem_nil, or_false] at hm
  rcases hm with rfl | rfl | rfl | rfl | rfl | rfl | rfl | rfl | rfl <;> decide
theorem Pl.add {p : Int} (h : 0 ≤ p ∧ p ≤ 1000000) {c : Int} (h0 : 0 ≤ c) (h1 : c ≤ 1000000) : Pl (p + c) := ⟨by omega, by omega⟩
theorem text0_ev {b : List Int} (hb : Code b) : ∀ (d : Nat) (out : List ByteArray) (p : Int), 0 ≤ p → p + d ≤ 1000000000 → out.length + d ≤ 1000000 → Sz out →
    ∃ r, Ev (fun k => spec_l30Text.l0 k out d b p) (r, p + d) ∧ r.length = out.length + d ∧ Sz r
  | 0, out, p, h0, h1, h2, hz => by
    refine ⟨out, ⟨1, fun k hk => ?_⟩, rfl, hz⟩
    obtain ⟨m, rfl⟩ : ∃ m, k = m + 1 := ⟨k - 1, by omega⟩
    simp [spec_l30Text.l0]
  | d + 1, out, p, h0, h1, h2, hz => by
    obtain ⟨s, hs, hs1⟩ := line_ev hb (p := p) ⟨h0, by omega⟩
    obtain ⟨r, hr, hl, hz2⟩ := text0_ev hb d (out ++ [s]) (p + 1) (by omega) (by omega) (by simp; omega) (hz.app (Sz.one hs1))
    refine ⟨r, ?_, by rw [hl]; simp; omega, hz2⟩
    refine Ev.step (f := fun k => if (((d + 1 : Nat) : Int)) > 0 then ((spec_l30Line.f k b p).bind fun bt237 => (if out.length < 8796093022208 then (spec_l30Text.l0 k (out ++ [bt237.1]) (wrap64 ((((d + 1 : Nat) : Int)) - 1)) b bt237.2) else (none))) else (some (out, p))) (fun k => rfl) ?_
    refine Ev.posf (by omega) (Ev.bind hs (Ev.posf (by omega) ?_))
    rw [show wrap64 (((d + 1 : Nat) : Int) - 1) = (d : Int) by rw [w64 (by omega) (by omega)]; omega]
    exact EvT hr (by rw [show p + 1 + (d : Int) = p + ((d + 1 : Nat) : Int) by omega])
theorem text_ev {b : List Int} (hb : Code b) {p : Int} (h0 : 0 ≤ p) (h1 : p ≤ 1000000) : ∃ r q, Ev (fun k => spec_l30Text.f k b p) (r, q) ∧ r.length ≤ 8 ∧ Sz r ∧ p ≤ q ∧ q ≤ p + 9 := by
  obtain ⟨v, hv, hm⟩ := one_ev hb (p := p) ⟨h0, by omega⟩ (l := [0, 1, 3, 5, 8]) (by simp) (by simp)
  have hv8 : 0 ≤ v ∧ v ≤ 8 := by simp at hm; omega
  obtain ⟨d, rfl⟩ := toNat_of hv8.1
  obtain ⟨r, hr, hl, hz⟩ := text0_ev hb d [] (p + 1) (by omega) (by omega) (by simp; omega) Sz.nil
  refine ⟨r, p + 1 + d, ?_, by rw [hl]; simp; omega, hz, ?_, ?_⟩
  · unfold spec_l30Text.f
    exact Ev.bind hv hr
  · omega
  · omega
theorem anyText_ev {b : List Int} (hb : Code b) {p : Int} (h0 : 0 ≤ p) (h1 : p ≤ 1000000) : ∃ r q, Ev (fun k => spec_l30AnyText.f k b p) (r, q) ∧ r.length ≤ 18 ∧ Sz r ∧ p ≤ q ∧ q ≤ p + 11 := by
  obtain ⟨t, q, ht, hl, hz, hq1, hq2⟩ := text_ev hb h0 h1
  obtain ⟨v, hv, hv0, hv1⟩ := pick_ev hb (p := q) ⟨by omega, by omega⟩ (n := 16) (by omega)
  unfold spec_l30AnyText.f
  by_cases c0 : v = 0
  · obtain ⟨s, hs, hm⟩ := of_ev hb (p := q + 1) ⟨by omega, by omega⟩ (l := [⟨#[97, 32, 108, 105, 110, 101, 32, 116, 111, 111, 32, 108, 111, 110, 103]⟩, ⟨#[120, 10, 121]⟩, ⟨#[255]⟩]) (by simp) (by simp)
    have hs1 : s.size ≤ 100 := by
      simp only [List.mem_cons, List.not_mem_nil, or_false] at hm
      rcases hm with rfl | rfl | rfl <;> decide
    exact ⟨t ++ [s], q + 1 + 1, Ev.bind ht (Ev.bind hv (Ev.posf c0 (Ev.bind hs (Ev.posf (by show t.length < _; omega) (Ev.now _))))), by simp; omega, hz.app (Sz.one hs1), by omega, by omega⟩
  · by_cases c1 : v = 1
    · exact ⟨_, q + 1, Ev.bind ht (Ev.bind hv (Ev.negf c0 (Ev.posf c1 (Ev.somef (Ev.posf (by simp; omega) (Ev.now _)))))), by simp; omega, hz.app (fun s hs => by simp only [List.mem_cons, List.not_mem_nil, or_false] at hs; rcases hs with rfl | rfl | rfl | rfl | rfl | rfl | rfl | rfl | rfl | rfl <;> decide), by omega, by omega⟩
    · exact ⟨t, q + 1, Ev.bind ht (Ev.bind hv (Ev.negf c0 (Ev.negf c1 (Ev.now _)))), by omega, hz, by omega, by omega⟩
theorem turn0_ev {b : List Int} (hb : Code b) : ∀ (d : Nat) (out : List ByteArray) (p : Int), 0 ≤ p → p + 3 * d ≤ 1000000000 → out.length ≤ 1000 → Sz out →
    ∃ r q, Ev (fun k => spec_l30Turn.l0 k out d b p) (r, q) ∧ r.length ≤ max out.length 10 ∧ Sz r ∧ p ≤ q ∧ q ≤ p + 3 * d
  | 0, out, p, h0, h1, h2, hz => by
    refine ⟨out, p, ⟨1, fun k hk => ?_⟩, by omega, hz, by omega, by omega⟩
    obtain ⟨m, rfl⟩ : ∃ m, k = m + 1 := ⟨k - 1, by omega⟩
    simp [spec_l30Turn.l0]
  | d + 1, out, p, h0, h1, h2, hz => by
    have e1 : wrap64 ((out.length : Int) + 1) = out.length + 1 := w64 (by omega) (by omega)
    have e2 : wrap64 (((d + 1 : Nat) : Int) - 1) = (d : Int) := by rw [w64 (by omega) (by omega)]; omega
    obtain ⟨i, hi, hi0, hi1⟩ := pick_ev hb (p := p) ⟨h0, by omega⟩ (n := out.length + 1) (by omega)
    obtain ⟨c, hc, hc0, hc1⟩ := pick_ev hb (p := p + 1) ⟨by omega, by omega⟩ (n := 3) (by omega)
    obtain ⟨s, hs, hs1⟩ := line_ev hb (p := p + 1 + 1) ⟨by omega, by omega⟩
    have hi2 : i ≤ out.length := by have := hi1 (by omega); omega
    obtain ⟨n, rfl⟩ := toNat_of hi0
    have step : ∀ (o2 : List ByteArray) (q : Int), o2.length ≤ max out.length 10 → Sz o2 → p ≤ q → q ≤ p + 3 → (∀ r, Ev (fun k => spec_l30Turn.l0 k o2 d b q) r → Ev (fun k => spec_l30Turn.l0 (k + 1) out ((d + 1 : Nat) : Int) b p) r) →
        ∃ r q, Ev (fun k => spec_l30Turn.l0 k out ((d + 1 : Nat) : Int) b p) (r, q) ∧ r.length ≤ max out.length 10 ∧ Sz r ∧ p ≤ q ∧ q ≤ p + 3 * ((d + 1 : Nat) : Int) := by
      intro o2 q g1 gz g2 g3 g4
      obtain ⟨r, q', hr, hl, hz2, g5, g6⟩ := turn0_ev hb d o2 q (by omega) (by omega) (by omega) gz
      exact ⟨r, q', Ev.step' (g4 _ hr), by omega, hz2, by omega, by omega⟩
    have wn : wrap64 ((n : Int) + 1) = n + 1 := w64 (by omega) (by omega)
    have hd : ((d + 1 : Nat) : Int) > 0 := by omega
    by_cases c0 : c = 0
    · by_cases g : (out.length : Int) < 10
      · refine step (([] ++ out.take (n : Int).toNat) ++ [s] ++ out.drop (n : Int).toNat) (p + 1 + 1 + 1) (by simp; omega) (((Sz.nil.app (hz.take _)).app (Sz.one hs1)).app (hz.drop _)) (by omega) (by omega) (fun r h => ?_)
        simp only [spec_l30Turn.l0, e1, e2]
        exact Ev.posf hd (Ev.bind hi (Ev.bind hc (Ev.posf c0 (Ev.posf g (Ev.somef (Ev.posf hi0 (Ev.posf hi2 (Ev.somef (Ev.posf (by simp; omega) (Ev.somef (Ev.bind hs (Ev.posf (by simp; omega) (Ev.somef (Ev.somef (Ev.posf (by simp; omega) h)))))))))))))))
      · refine step out (p + 1 + 1) (by omega) hz (by omega) (by omega) (fun r h => ?_)
        simp only [spec_l30Turn.l0, e1, e2]
        exact Ev.posf hd (Ev.bind hi (Ev.bind hc (Ev.posf c0 (Ev.negf g h))))
    · by_cases c1 : c = 1
      · by_cases g : (n : Int) < out.length
        · refine step (([] ++ out.take (n : Int).toNat) ++ out.drop ((n : Int) + 1).toNat) (p + 1 + 1) (by simp; omega) ((Sz.nil.app (hz.take _)).app (hz.drop _)) (by omega) (by omega) (fun r h => ?_)
          simp only [spec_l30Turn.l0, e1, e2]
          refine Ev.posf hd (Ev.bind hi (Ev.bind hc ?_))
          simp only [wn, Option.bind_some]
          exact Ev.negf c0 (Ev.posf c1 (Ev.posf g (Ev.posf hi0 (Ev.posf hi2 (Ev.posf (by simp; omega) (Ev.posf (by omega) (Ev.posf (by omega) (Ev.posf (by simp; omega) h))))))))
        · refine step out (p + 1 + 1) (by omega) hz (by omega) (by omega) (fun r h => ?_)
          simp only [spec_l30Turn.l0, e1, e2]
          exact Ev.posf hd (Ev.bind hi (Ev.bind hc (Ev.negf c0 (Ev.posf c1 (Ev.negf g h)))))
      · by_cases g : (n : Int) < out.length
        · refine step (out.set (n : Int).toNat s) (p + 1 + 1 + 1) (by simp; omega) (hz.set _ hs1) (by omega) (by omega) (fun r h => ?_)
          simp only [spec_l30Turn.l0, e1, e2]
          exact Ev.posf hd (Ev.bind hi (Ev.bind hc (Ev.negf c0 (Ev.negf c1 (Ev.posf g (Ev.bind hs (Ev.posf hi0 h)))))))
        · refine step out (p + 1 + 1) (by omega) hz (by omega) (by omega) (fun r h => ?_)
          simp only [spec_l30Turn.l0, e1, e2]
          exact Ev.posf hd (Ev.bind hi (Ev.bind hc (Ev.negf c0 (Ev.negf c1 (Ev.negf g h)))))
theorem turn_ev {b : List Int} (hb : Code b) {p : Int} (h0 : 0 ≤ p) (h1 : p ≤ 1000000) (t : List ByteArray) (ht : t.length ≤ 1000) (hz : Sz t) :
    ∃ r q, Ev (fun k => spec_l30Turn.f k b p t) (r, q) ∧ r.length ≤ max t.length 10 ∧ Sz r ∧ p ≤ q ∧ q ≤ p + 10 := by
  obtain ⟨c, hc, hc0, hc1⟩ := pick_ev hb (p := p) ⟨h0, by omega⟩ (n := 4) (by omega)
  have hc2 := hc1 (by omega)
  obtain ⟨d, rfl⟩ := toNat_of hc0
  obtain ⟨r, q, hr, hl, hz2, g1, g2⟩ := turn0_ev hb d ([] ++ t) (p + 1) (by omega) (by omega) (by simpa using ht) (Sz.nil.app hz)
  refine ⟨r, q, ?_, by simpa using hl, hz2, by omega, by omega⟩
  unfold spec_l30Turn.f
  exact Ev.somef (Ev.posf (by simp; omega) (Ev.bind hc hr))
theorem open_ev {l : List Int} (hw : ∀ x ∈ l, 0 ≤ x ∧ x ≤ 255) : ∃ b, spec_l30Open.f l = some (b, 0) ∧ Code b := by
  unfold spec_l30Open.f
  by_cases h : (l.length : Int) > 2000
  · exact ⟨l.take 2000, by rw [if_pos h, if_pos (by omega)], by simp; omega, fun x hx => hw x (List.mem_of_mem_take hx)⟩
  · exact ⟨l, by rw [if_neg h], by omega, hw⟩
end Go.Proofs.Ytfnhjaiioojbkaa.Q
end
section
namespace Go.Proofs.Ytfnhjaiioojbkaa.Q
open Go.RowKit Go.Proofs.YtfnhjaiioojbkaaW.PrintWords
set_option linter.unusedVariables false
set_option linter.unusedSimpArgs false
def okc (c : UInt8) : Bool := decide (32 ≤ c.toNat) && decide (c.toNat ≤ 126)
def lineB (s : ByteArray) : Bool := s.data.toList.all okc && decide (s.size ≤ 12)
def textB (l : List ByteArray) : Bool := decide (l.length ≤ 10) && l.all lineB
/-- Not too long for a loop over it. -/
def Sm (l : List ByteArray) : Prop := l.length ≤ 100000 ∧ ∀ s ∈ l, s.size ≤ 100000
theorem bt_nat {s : ByteArray} {i : Nat} (h : i < s.size) : bt s (i : Int) = ((s.data.toList[i]'(by simpa using h)).toNat : Int) := by
  simp [bt, h]
  rfl
theorem drop_all {α : Type} (p : α → Bool) (l : List α) (i : Nat) (h : i < l.length) : (l.drop i).all p = (p l[i] && (l.drop (i + 1)).all p) := by
  rw [List.drop_eq_getElem_cons h, List.all_cons]
theorem implLine0_ev (s : ByteArray) (hs : s.size ≤ 100000) : ∀ (d i : Nat), i ≤ s.size → s.size - i = d →
    Ev (fun k => impl_lineOk.l0 k s s.size i) ((s.data.toList.drop i).all okc && decide (s.size ≤ 12))
  | 0, i, hi, hd => by
    refine Ev.step' ?_
    simp only [impl_lineOk.l0]
    refine Ev.negf (by omega) ?_
    have e : s.data.toList.drop i = [] := List.drop_eq_nil_of_le (by have : s.data.toList.length = s.size := by simp
                                                                     omega)
    rw [e]
    exact EvT (Ev.now _) (by simp; omega)
  | d + 1, i, hi, hd => by
    have hl : i < s.size := by omega
    have hl2 : i < s.data.toList.length := by simpa using hl
    refine Ev.step' ?_
    simp only [impl_lineOk.l0]
    rw [drop_all okc _ i hl2, bt_nat hl]
    refine Ev.posf (by omega) (Ev.posf (by omega) (Ev.posf (by omega) ?_))
    by_cases h1 : (((s.data.toList[i]'hl2).toNat : Nat) : Int) < 32
    · refine Ev.posf h1 (EvT (Ev.now _) ?_)
      have : okc (s.data.toList[i]'hl2) = false := by simp only [okc, Bool.and_eq_false_iff, decide_eq_false_iff_not]; omega
      rw [this]; rfl
    · by_cases h2 : (((s.data.toList[i]'hl2).toNat : Nat) : Int) > 126
      · refine Ev.negf h1 (Ev.posf h2 (EvT (Ev.now _) ?_))
        have : okc (s.data.toList[i]'hl2) = false := by simp only [okc, Bool.and_eq_false_iff, decide_eq_false_iff_not]; omega
        rw [this]; rfl
      · refine Ev.negf h1 (Ev.negf h2 ?_)
        have : okc (s.data.toList[i]'hl2) = true := by simp only [okc, Bool.and_eq_true, decide_eq_true_eq]; omega
        rw [this, Bool.true_and, show wrap64 ((i : Int) + 1) = ((i + 1 : Nat) : Int) by rw [w64 (by omega) (by omega)]; omega]
        exact implLine0_ev s hs d (i + 1) (by omega) (by omega)
theorem implLine_ev (s : ByteArray) (hs : s.size ≤ 100000) : Ev (fun k => impl_lineOk.f k s) (lineB s) := by
  unfold impl_lineOk.f
  exact EvT (implLine0_ev s hs _ 0 (by omega) rfl) (by simp [lineB])
theorem specLine0_ev (s : ByteArray) (hs : s.size ≤ 100000) : ∀ (d i : Nat), i ≤ s.size → s.size - i = d →
    Ev (fun k => spec_l1Line.l0 k s i) ((s.data.toList.drop i).all okc && decide (s.size ≤ 12))
  | 0, i, hi, hd => by
    refine Ev.step' ?_
    simp only [spec_l1Line.l0]
    refine Ev.negf (by omega) ?_
    have e : s.data.toList.drop i = [] := List.drop_eq_nil_of_le (by have : s.data.toList.length = s.size := by simp
                                                                     omega)
    rw [e]
    exact EvT (Ev.now _) (by simp; omega)
  | d + 1, i, hi, hd => by
    have hl : i < s.size := by omega
    have hl2 : i < s.data.toList.length := by simpa using hl
    refine Ev.step' ?_
    simp only [spec_l1Line.l0]
    rw [drop_all okc _ i hl2, bt_nat hl]
    refine Ev.posf (by omega) (Ev.posf (by omega) ?_)
    by_cases h1 : (((s.data.toList[i]'hl2).toNat : Nat) : Int) < 32
    · refine Ev.posf h1 (EvT (Ev.now _) ?_)
      have : okc (s.data.toList[i]'hl2) = false := by simp only [okc, Bool.and_eq_false_iff, decide_eq_false_iff_not]; omega
      rw [this]; rfl
    · by_cases h2 : (((s.data.toList[i]'hl2).toNat : Nat) : Int) > 126
      · refine Ev.negf h1 (Ev.posf h2 (EvT (Ev.now _) ?_))
        have : okc (s.data.toList[i]'hl2) = false := by simp only [okc, Bool.and_eq_false_iff, decide_eq_false_iff_not]; omega
        rw [this]; rfl
      · refine Ev.negf h1 (Ev.negf h2 ?_)
        have : okc (s.data.toList[i]'hl2) = true := by simp only [okc, Bool.and_eq_true, decide_eq_true_eq]; omega
        rw [this, Bool.true_and, show wrap64 ((i : Int) + 1) = ((i + 1 : Nat) : Int) by rw [w64 (by omega) (by omega)]; omega]
        exact specLine0_ev s hs d (i + 1) (by omega) (by omega)
theorem specLine_ev (s : ByteArray) (hs : s.size ≤ 100000) : Ev (fun k => spec_l1Line.f k s) (lineB s) := by
  unfold spec_l1Line.f
  exact EvT (specLine0_ev s hs _ 0 (by omega) rfl) (by simp [lineB])
theorem anyF_ev {α : Type} (f : Nat → α → Option Bool) (p : α → Bool) : ∀ l : List α, (∀ x ∈ l, Ev (fun k => f k x) (p x)) → Ev (fun k => anyF (f k) l) (l.any p)
  | [], h => Ev.now _
  | x :: t, h => by
    show Ev (fun k => (f k x).bind fun b => if b then some true else anyF (f k) t) ((x :: t).any p)
    refine Ev.bind (h x List.mem_cons_self) ?_
    cases e : p x with
    | true => exact EvT (Ev.posf rfl (Ev.now _)) (by simp [e])
    | false => exact EvT (Ev.negf (by simp) (anyF_ev f p t (fun y hy => h y (List.mem_cons_of_mem _ hy)))) (by simp [e])
theorem implText_ev (l : List ByteArray) (hl : Sm l) : Ev (fun k => impl_TextOk.f k l) (textB l) := by
  unfold impl_TextOk.f
  by_cases c : l.length ≤ 10
  · refine Ev.posf c (EvT (Ev.mapf _ (anyF_ev impl_TextOk_1.f (fun s => !lineB s) l (fun x hx => ?_))) ?_)
    · unfold impl_TextOk_1.f
      exact Ev.bind (implLine_ev x (hl.2 x hx)) (Ev.now _)
    · rw [textB, decide_eq_true c, Bool.true_and, ← List.not_all_eq_any_not]
      simp
  · exact Ev.negf c (EvT (Ev.now _) (by simp [textB]; omega))
theorem specText0_ev (l : List ByteArray) (hl : Sm l) : ∀ (d i : Nat), i ≤ l.length → l.length - i = d →
    Ev (fun k => spec_l1Ok.l0 k l i) ((l.drop i).all lineB && decide (l.length ≤ 10))
  | 0, i, hi, hd => by
    refine Ev.step' ?_
    simp only [spec_l1Ok.l0]
    refine Ev.negf (by omega) ?_
    rw [List.drop_eq_nil_of_le (by omega)]
    exact EvT (Ev.now _) (by simp; omega)
  | d + 1, i, hi, hd => by
    have hlt : i < l.length := by omega
    have hl1 := hl.1
    refine Ev.step' ?_
    simp only [spec_l1Ok.l0]
    rw [drop_all lineB l i hlt, rdAt hlt]
    refine Ev.posf (by omega) (Ev.posf (by omega) (Ev.bind (specLine_ev _ (hl.2 _ (List.getElem_mem hlt))) ?_))
    cases e : lineB l[i] with
    | false => exact Ev.negf (by simp) (EvT (Ev.now _) (by simp))
    | true =>
      refine Ev.posf rfl ?_
      rw [Bool.true_and, show wrap64 ((i : Int) + 1) = ((i + 1 : Nat) : Int) by rw [w64 (by omega) (by omega)]; omega]
      exact specText0_ev l hl d (i + 1) (by omega) (by omega)
theorem specText_ev (l : List ByteArray) (hl : Sm l) : Ev (fun k => spec_l1Ok.f k l) (textB l) := by
  unfold spec_l1Ok.f
  exact EvT (specText0_ev l hl _ 0 (by omega) rfl) (by simp [textB, Bool.and_comm])
theorem smTexts0_ev (a b : List ByteArray) (h : a.length = b.length) (hs : a.length ≤ 100000000) : ∀ (d i : Nat), i ≤ a.length → a.length - i = d →
    ∃ r, Ev (fun k => laws_smTexts.l0 k a b i) r ∧ (r = true ↔ a.drop i = b.drop i)
  | 0, i, hi, hd => by
    refine ⟨true, Ev.step' ?_, ?_⟩
    · simp only [laws_smTexts.l0]
      exact Ev.negf (by omega) (Ev.now _)
    · rw [List.drop_eq_nil_of_le (by omega), List.drop_eq_nil_of_le (by omega)]; simp
  | d + 1, i, hi, hd => by
    have h1 : i < a.length := by omega
    have h2 : i < b.length := by omega
    rw [List.drop_eq_getElem_cons h1, List.drop_eq_getElem_cons h2]
    by_cases c : a[i].toList = b[i].toList
    · obtain ⟨r, hr, he⟩ := smTexts0_ev a b h hs d (i + 1) (by omega) (by omega)
      refine ⟨r, Ev.step' ?_, ?_⟩
      · simp only [laws_smTexts.l0]
        rw [rdAt h1, rdAt h2, show wrap64 ((i : Int) + 1) = ((i + 1 : Nat) : Int) by rw [w64 (by omega) (by omega)]; omega]
        exact Ev.posf (by omega) (Ev.posf (by omega) (Ev.posf (by omega) (Ev.posf c hr)))
      · rw [he, bstr.mp c]; exact ⟨fun e => by rw [e], fun e => (List.cons.inj e).2⟩
    · refine ⟨false, Ev.step' ?_, ?_⟩
      · simp only [laws_smTexts.l0]
        rw [rdAt h1, rdAt h2]
        exact Ev.posf (by omega) (Ev.posf (by omega) (Ev.posf (by omega) (Ev.negf c (Ev.now _))))
      · exact ⟨fun e => (by cases e), fun e => absurd (bstr.mpr (List.cons.inj e).1) c⟩
theorem smTexts_ev (a b : List ByteArray) (hs : a.length ≤ 100000000) : ∃ r, Ev (fun k => laws_smTexts.f k a b) r ∧ (r = true ↔ a = b) := by
  unfold laws_smTexts.f
  by_cases h : a.length = b.length
  · obtain ⟨r, hr, he⟩ := smTexts0_ev a b h hs _ 0 (by omega) rfl
    exact ⟨r, Ev.posf (by omega) hr, by simpa using he⟩
  · exact ⟨false, Ev.negf (by omega) (Ev.now _), by simp; intro e; exact h (by rw [e])⟩
theorem smTexts_refl (a : List ByteArray) (hs : a.length ≤ 100000000) : Ev (fun k => laws_smTexts.f k a a) true := by
  obtain ⟨r, hr, he⟩ := smTexts_ev a a hs
  rw [he.mpr rfl] at hr
  exact hr
end Go.Proofs.Ytfnhjaiioojbkaa.Q
end
section
namespace Go.Proofs.Ytfnhjaiioojbkaa.Q
open Go.RowKit Go.Proofs.YtfnhjaiioojbkaaW.PrintWords
set_option linter.unusedVariables false
set_option linter.unusedSimpArgs false
abbrev Dl := S39
abbrev Tx := List ByteArray
/-- How many lines two texts begin with together. -/
def pre : Tx → Tx → Nat
  | a :: s, b :: t => if a.toList = b.toList then pre s t + 1 else 0
  | _, _ => 0
def lrGo (t : Tx) : Tx → Int → Int → Int → Int × Int
  | [], _, f, m => (f, m)
  | b :: s, i, f, m => if (pre (b :: s) t : Int) > m then lrGo t s (i + 1) i (pre (b :: s) t) else lrGo t s (i + 1) f m
def lr (base t : Tx) : Int × Int := lrGo t base 0 0 0
def dGo (base : Tx) : Nat → Tx → List Dl → List Dl
  | 0, _, out => out
  | _, [], out => out
  | n + 1, b :: t, out =>
    if (lr base (b :: t)).2 > 0 then dGo base n ((b :: t).drop (lr base (b :: t)).2.toNat) (out ++ [⟨(lr base (b :: t)).1, (lr base (b :: t)).2, []⟩])
    else if 0 < out.length ∧ (rd_T39 out ((out.length : Int) - 1)).f1 = 0 then
      dGo base n t (out.set (out.length - 1) ⟨(rd_T39 out ((out.length : Int) - 1)).f0, (rd_T39 out ((out.length : Int) - 1)).f1, (rd_T39 out ((out.length : Int) - 1)).f2 ++ [b]⟩)
    else dGo base n t (out ++ [⟨0, 0, [b]⟩])
def dOf (base t : Tx) : List Dl := dGo base t.length t []
theorem pre_nil_left (t : Tx) : pre [] t = 0 := by simp [pre]
theorem pre_nil_right : ∀ s : Tx, pre s [] = 0
  | [] => rfl
  | _ :: _ => rfl
theorem pre_cons_pos {a b : ByteArray} {s t : Tx} (h : a.toList = b.toList) : pre (a :: s) (b :: t) = pre s t + 1 := if_pos h
theorem pre_cons_neg {a b : ByteArray} {s t : Tx} (h : ¬ a.toList = b.toList) : pre (a :: s) (b :: t) = 0 := if_neg h
theorem pre_le : ∀ s t : Tx, pre s t ≤ s.length ∧ pre s t ≤ t.length
  | a :: s, b :: t => by
    have := pre_le s t
    unfold pre
    split <;> simp <;> omega
  | [], t => by simp [pre]
  | a :: s, [] => by simp [pre]
theorem pre_take : ∀ s t : Tx, s.take (pre s t) = t.take (pre s t)
  | a :: s, b :: t => by
    unfold pre
    split
    · rename_i h
      rw [List.take_succ_cons, List.take_succ_cons, pre_take s t, bstr.mp h]
    · rfl
  | [], t => by simp [pre]
  | a :: s, [] => by simp [pre]
theorem pre_self : ∀ s : Tx, pre s s = s.length
  | [] => rfl
  | a :: s => by simp [pre, pre_self s]
/-- A run: lines of the base with which the text begins. -/
def Run (base t : Tx) (r : Int × Int) : Prop := 0 ≤ r.1 ∧ 0 ≤ r.2 ∧ r.1 + r.2 ≤ base.length ∧ r.2 ≤ t.length ∧ (base.drop r.1.toNat).take r.2.toNat = t.take r.2.toNat
theorem lrGo_run (base t : Tx) : ∀ (s : Tx) (i : Nat) (f m : Int), base.drop i = s → i + s.length = base.length → Run base t (f, m) → Run base t (lrGo t s i f m)
  | [], i, f, m, hs, hl, h => h
  | b :: s, i, f, m, hs, hl, h => by
    have hs' : base.drop (i + 1) = s := by rw [← List.drop_drop, hs]; rfl
    have hl' : i + 1 + s.length = base.length := by simp at hl; omega
    have hp := pre_le (b :: s) t
    unfold lrGo
    split
    · refine lrGo_run base t s (i + 1) _ _ hs' hl' ⟨by simp, by simp, ?_, ?_, ?_⟩
      · simp at hp ⊢; omega
      · simp at hp ⊢; omega
      · simp only [Int.toNat_natCast]
        rw [hs]
        exact pre_take _ _
    · exact lrGo_run base t s (i + 1) f m hs' hl' h
theorem lr_run (base t : Tx) : Run base t (lr base t) := lrGo_run base t base 0 0 0 rfl (by simp) ⟨by simp, by simp, by simp, by simp, by simp⟩
theorem lrGo_small (t : Tx) : ∀ (s : Tx) (i f m : Int), (s.length : Int) ≤ m → lrGo t s i f m = (f, m)
  | [], i, f, m, h => rfl
  | b :: s, i, f, m, h => by
    have hp := pre_le (b :: s) t
    unfold lrGo
    rw [if_neg (by omega)]
    exact lrGo_small t s _ f m (by simp at h; omega)
theorem lr_self (b : ByteArray) (s : Tx) : lr (b :: s) (b :: s) = (0, ((b :: s).length : Int)) := by
  unfold lr lrGo
  rw [pre_self, if_pos (by simp)]
  exact lrGo_small _ _ _ _ _ (by simp; omega)
/-- What a piece makes. -/
def seg (base : Tx) (x : Dl) : Tx := (base.take (x.f0 + x.f1).toNat).drop x.f0.toNat ++ x.f2
def ap (base : Tx) (d : List Dl) : Tx := d.flatMap (seg base)
def Piece (base : Tx) (x : Dl) : Prop := (1 ≤ x.f1 ∧ 0 ≤ x.f0 ∧ x.f0 + x.f1 ≤ base.length ∧ x.f2 = []) ∨ (x.f0 = 0 ∧ x.f1 = 0 ∧ 1 ≤ x.f2.length)
theorem piece_len {base : Tx} {x : Dl} (h : Piece base x) : 1 ≤ (seg base x).length ∧ x.f2.length ≤ (seg base x).length ∧ 0 ≤ x.f0 ∧ 0 ≤ x.f1 ∧ x.f0 + x.f1 ≤ base.length := by
  unfold seg
  rcases h with ⟨h1, h2, h3, h4⟩ | ⟨h1, h2, h3⟩
  · simp [h4]; omega
  · simp [h1, h2]; omega
theorem ap_snoc (base : Tx) (d : List Dl) (x : Dl) : ap base (d ++ [x]) = ap base d ++ seg base x := by simp [ap]
theorem ap_len {base : Tx} : ∀ {d : List Dl}, (∀ x ∈ d, Piece base x) → d.length ≤ (ap base d).length
  | [], _ => by simp
  | x :: d, h => by
    have h1 := (piece_len (h x List.mem_cons_self)).1
    have h2 := ap_len (fun y hy => h y (List.mem_cons_of_mem _ hy)) (d := d)
    simp [ap] at h2 ⊢
    omega
theorem mem_ap {base : Tx} {d : List Dl} {x : Dl} (hx : x ∈ d) {s : ByteArray} (hs : s ∈ x.f2) : s ∈ ap base d := by
  simp only [ap, List.mem_flatMap]
  exact ⟨x, hx, by simp [seg, hs]⟩
theorem rdD {d : List Dl} {i : Nat} (h : i < d.length) : rd_T39 d (i : Int) = d[i] := by
  simp [rd_T39, List.getD_eq_getElem?_getD, h]
theorem rd_last {d : List Dl} (x : Dl) : rd_T39 (d ++ [x]) (((d ++ [x]).length : Int) - 1) = x := by
  have e : (((d ++ [x]).length : Int) - 1) = ((d.length : Nat) : Int) := by simp
  rw [e, rdD (by simp)]
  simp
theorem set_last (d : List Dl) (x y : Dl) : (d ++ [x]).set ((d ++ [x]).length - 1) y = d ++ [y] := by
  simp
/-- The last piece, as the text has it. -/
theorem last_of {d : List Dl} (h : 0 < d.length) : ∃ d' x, d = d' ++ [x] := ⟨d.dropLast, d.getLast (by intro e; rw [e] at h; simp at h), (List.dropLast_concat_getLast _).symm⟩
theorem dGo_right (base : Tx) : ∀ (n : Nat) (t : Tx) (out : List Dl), t.length ≤ n → (∀ x ∈ out, Piece base x) → ap base (dGo base n t out) = ap base out ++ t ∧ ∀ x ∈ dGo base n t out, Piece base x
  | 0, t, out, hn, h => by
    have : t = [] := List.eq_nil_of_length_eq_zero (by omega)
    subst this
    simpa [dGo] using h
  | n + 1, [], out, hn, h => by simpa [dGo] using h
  | n + 1, b :: t, out, hn, h => by
    have hr := lr_run base (b :: t)
    unfold dGo
    by_cases c : (lr base (b :: t)).2 > 0
    · rw [if_pos c]
      obtain ⟨r1, r2, r3, r4, r5⟩ := hr
      have hp : Piece base ⟨(lr base (b :: t)).1, (lr base (b :: t)).2, []⟩ := .inl ⟨by show 1 ≤ (lr base (b :: t)).2; omega, r1, r3, rfl⟩
      have := dGo_right base n ((b :: t).drop (lr base (b :: t)).2.toNat) (out ++ [⟨(lr base (b :: t)).1, (lr base (b :: t)).2, []⟩]) (by simp at hn ⊢; omega)
        (fun x hx => by simp at hx; rcases hx with hx | rfl; exact h x hx; exact hp)
      refine ⟨?_, this.2⟩
      rw [this.1, ap_snoc, List.append_assoc]
      congr 1
      show (base.take ((lr base (b :: t)).1 + (lr base (b :: t)).2).toNat).drop (lr base (b :: t)).1.toNat ++ [] ++ _ = _
      rw [show ((lr base (b :: t)).1 + (lr base (b :: t)).2).toNat = (lr base (b :: t)).1.toNat + (lr base (b :: t)).2.toNat by omega, List.append_nil, ← List.take_drop, r5, List.take_append_drop]
    · rw [if_neg c]
      split
      · rename_i g
        obtain ⟨d, x, rfl⟩ := last_of g.1
        rw [rd_last, set_last]
        rw [rd_last] at g
        have hx := h x (by simp)
        have hx2 : x.f0 = 0 ∧ 1 ≤ x.f2.length := by
          rcases hx with ⟨h1, _⟩ | ⟨h1, _, h3⟩
          · exact absurd g.2 (by omega)
          · exact ⟨h1, h3⟩
        have := dGo_right base n t (d ++ [⟨x.f0, x.f1, x.f2 ++ [b]⟩]) (by simp at hn; omega)
          (fun y hy => by simp at hy; rcases hy with hy | rfl; exact h y (by simp [hy]); exact .inr ⟨hx2.1, g.2, by simp⟩)
        refine ⟨?_, this.2⟩
        rw [this.1, ap_snoc, ap_snoc]
        simp [seg]
      · have := dGo_right base n t (out ++ [⟨0, 0, [b]⟩]) (by simp at hn; omega)
          (fun y hy => by simp at hy; rcases hy with hy | rfl; exact h y hy; exact .inr ⟨rfl, rfl, by simp⟩)
        refine ⟨?_, this.2⟩
        rw [this.1, ap_snoc]
        simp [seg]
theorem dOf_right (base t : Tx) : ap base (dOf base t) = t ∧ ∀ x ∈ dOf base t, Piece base x := by
  have := dGo_right base t.length t [] (Nat.le_refl _) (by simp)
  simpa [ap, dOf] using this
theorem dOf_self : ∀ b : Tx, dOf b b = if b = [] then [] else [⟨0, b.length, []⟩]
  | [] => rfl
  | b :: t => by
    unfold dOf
    rw [List.length_cons, dGo, lr_self, if_pos (by simp)]
    simp [dGo]
    cases t <;> simp [dGo]
theorem lr_nil (t : Tx) : lr [] t = (0, 0) := rfl
theorem dGo_nil : ∀ (n : Nat) (t u : Tx), t.length ≤ n → u ≠ [] → dGo [] n t [⟨0, 0, u⟩] = [⟨0, 0, u ++ t⟩]
  | 0, t, u, h, hu => by
    have : t = [] := List.eq_nil_of_length_eq_zero (by omega)
    subst this
    simp [dGo]
  | n + 1, [], u, h, hu => by simp [dGo]
  | n + 1, b :: t, u, h, hu => by
    rw [dGo, lr_nil, if_neg (by simp), if_pos ⟨by simp, rfl⟩]
    show dGo [] n t [⟨0, 0, u ++ [b]⟩] = _
    rw [dGo_nil n t (u ++ [b]) (by simp at h; omega) (by simp)]
    simp
theorem dOf_nil : ∀ b : Tx, dOf [] b = if b = [] then [] else [⟨0, 0, b⟩]
  | [] => rfl
  | b :: t => by
    unfold dOf
    rw [List.length_cons, dGo, lr_nil, if_neg (by simp), if_neg (by simp)]
    rw [List.nil_append, dGo_nil _ _ _ (Nat.le_refl _) (by simp)]
    simp
end Go.Proofs.Ytfnhjaiioojbkaa.Q
end
section
namespace Go.Proofs.Ytfnhjaiioojbkaa.Q
open Go.RowKit Go.Proofs.YtfnhjaiioojbkaaW.PrintWords
set_option linter.unusedVariables false
set_option linter.unusedSimpArgs false
theorem implRun1_ev {base t : Tx} (hb : base.length ≤ 100000) (ht : t.length ≤ 100000) (i : Nat) (f m : Int) (r : Int × Int) : ∀ (d n N : Nat), base.length - (i + n) = d → i + n ≤ base.length → n ≤ t.length → N = n + pre (base.drop (i + n)) (t.drop n) →
    Ev (fun k => impl_longestRun.l0 k base t (if (N : Int) > m then i else f) (if (N : Int) > m then (N : Int) else m) base.length ((i + 1 : Nat) : Int)) r →
    Ev (fun k => impl_longestRun.l1 k base t f m i n base.length i) r := by
  intro d
  induction d with
  | zero =>
    intro n N hd h1 h2 hN h
    have e : base.drop (i + n) = [] := List.drop_eq_nil_of_le (by omega)
    have hNn : n = N := by rw [hN, e, pre_nil_left, Nat.add_zero]
    subst hNn
    refine Ev.step' ?_
    simp only [impl_longestRun.l1, w64_add i n (by omega), w64_succ i (by omega)]
    refine Ev.negf (by omega) ?_
    by_cases c : (n : Int) > m
    · rw [if_pos c, if_pos c] at h; exact Ev.posf c h
    · rw [if_neg c, if_neg c] at h; exact Ev.negf c h
  | succ d ih =>
    intro n N hd h1 h2 hN h
    have g1 : i + n < base.length := by omega
    refine Ev.step' ?_
    simp only [impl_longestRun.l1, w64_add i n (by omega), w64_succ i (by omega), w64_succ n (by omega)]
    refine Ev.posf (by omega) ?_
    by_cases g2 : n < t.length
    · refine Ev.posf (by omega) (Ev.posf (by omega) (Ev.posf (by omega) ?_))
      rw [rdAt g1, rdAt g2]
      rw [List.drop_eq_getElem_cons g1, List.drop_eq_getElem_cons g2] at hN
      by_cases c : base[i + n].toList = t[n].toList
      · rw [pre_cons_pos c] at hN
        exact Ev.posf c (ih (n + 1) N (by omega) (by omega) (by omega) (by rw [hN, show i + (n + 1) = i + n + 1 by omega]; omega) h)
      · rw [pre_cons_neg c, Nat.add_zero] at hN
        have hNn : n = N := hN.symm
        subst hNn
        refine Ev.negf c ?_
        by_cases c : (n : Int) > m
        · rw [if_pos c, if_pos c] at h; exact Ev.posf c h
        · rw [if_neg c, if_neg c] at h; exact Ev.negf c h
    · have e : t.drop n = [] := List.drop_eq_nil_of_le (by omega)
      have hNn : n = N := by rw [hN, e, pre_nil_right, Nat.add_zero]
      subst hNn
      refine Ev.negf (by omega) ?_
      by_cases c : (n : Int) > m
      · rw [if_pos c, if_pos c] at h; exact Ev.posf c h
      · rw [if_neg c, if_neg c] at h; exact Ev.negf c h
theorem implRun0_ev {base t : Tx} (hb : base.length ≤ 100000) (ht : t.length ≤ 100000) : ∀ (d i : Nat) (f m : Int), base.length - i = d → i ≤ base.length → Ev (fun k => impl_longestRun.l0 k base t f m base.length i) (lrGo t (base.drop i) i f m)
  | 0, i, f, m, hd, hi => by
    rw [List.drop_eq_nil_of_le (by omega)]
    refine Ev.step' ?_
    simp only [impl_longestRun.l0]
    exact Ev.negf (by omega) (Ev.now _)
  | d + 1, i, f, m, hd, hi => by
    have g : i < base.length := by omega
    refine Ev.step' ?_
    simp only [impl_longestRun.l0]
    refine Ev.posf (by omega) (implRun1_ev hb ht i f m _ _ 0 _ rfl (by omega) (by omega) rfl ?_)
    have e := List.drop_eq_getElem_cons g
    rw [e, lrGo, ← e]
    simp only [Nat.zero_add, Nat.add_zero, List.drop_zero]
    by_cases c : (pre (base.drop i) t : Int) > m
    · rw [if_pos c, if_pos c, if_pos c]
      exact implRun0_ev hb ht d (i + 1) _ _ (by omega) (by omega)
    · rw [if_neg c, if_neg c, if_neg c]
      exact implRun0_ev hb ht d (i + 1) _ _ (by omega) (by omega)
theorem implRun_ev {base t : Tx} (hb : base.length ≤ 100000) (ht : t.length ≤ 100000) : Ev (fun k => impl_longestRun.f k base t) (lr base t) := by
  unfold impl_longestRun.f
  exact implRun0_ev hb ht _ 0 0 0 rfl (by omega)
theorem specRun1_ev {base t : Tx} (hb : base.length ≤ 100000) (ht : t.length ≤ 100000) (i : Nat) (f m : Int) (r : Int × Int) : ∀ (d n N : Nat), base.length - (i + n) = d → i + n ≤ base.length → n ≤ t.length → N = n + pre (base.drop (i + n)) (t.drop n) →
    Ev (fun k => spec_l13Run.l0 k base t (if (N : Int) > m then i else f) (if (N : Int) > m then (N : Int) else m) ((i + 1 : Nat) : Int)) r →
    Ev (fun k => spec_l13Run.l1 k base t f m i n) r := by
  intro d
  induction d with
  | zero =>
    intro n N hd h1 h2 hN h
    have e : base.drop (i + n) = [] := List.drop_eq_nil_of_le (by omega)
    have hNn : n = N := by rw [hN, e, pre_nil_left, Nat.add_zero]
    subst hNn
    refine Ev.step' ?_
    simp only [spec_l13Run.l1, w64_add i n (by omega), w64_succ i (by omega)]
    refine Ev.negf (by omega) ?_
    by_cases c : (n : Int) > m
    · rw [if_pos c, if_pos c] at h; exact Ev.posf c h
    · rw [if_neg c, if_neg c] at h; exact Ev.negf c h
  | succ d ih =>
    intro n N hd h1 h2 hN h
    have g1 : i + n < base.length := by omega
    refine Ev.step' ?_
    simp only [spec_l13Run.l1, w64_add i n (by omega), w64_succ i (by omega), w64_succ n (by omega)]
    refine Ev.posf (by omega) ?_
    by_cases g2 : n < t.length
    · refine Ev.posf (by omega) (Ev.posf (by omega) (Ev.posf (by omega) ?_))
      rw [rdAt g1, rdAt g2]
      rw [List.drop_eq_getElem_cons g1, List.drop_eq_getElem_cons g2] at hN
      by_cases c : base[i + n].toList = t[n].toList
      · rw [pre_cons_pos c] at hN
        exact Ev.posf c (ih (n + 1) N (by omega) (by omega) (by omega) (by rw [hN, show i + (n + 1) = i + n + 1 by omega]; omega) h)
      · rw [pre_cons_neg c, Nat.add_zero] at hN
        have hNn : n = N := hN.symm
        subst hNn
        refine Ev.negf c ?_
        by_cases c : (n : Int) > m
        · rw [if_pos c, if_pos c] at h; exact Ev.posf c h
        · rw [if_neg c, if_neg c] at h; exact Ev.negf c h
    · have e : t.drop n = [] := List.drop_eq_nil_of_le (by omega)
      have hNn : n = N := by rw [hN, e, pre_nil_right, Nat.add_zero]
      subst hNn
      refine Ev.negf (by omega) ?_
      by_cases c : (n : Int) > m
      · rw [if_pos c, if_pos c] at h; exact Ev.posf c h
      · rw [if_neg c, if_neg c] at h; exact Ev.negf c h
theorem specRun0_ev {base t : Tx} (hb : base.length ≤ 100000) (ht : t.length ≤ 100000) : ∀ (d i : Nat) (f m : Int), base.length - i = d → i ≤ base.length → Ev (fun k => spec_l13Run.l0 k base t f m i) (lrGo t (base.drop i) i f m)
  | 0, i, f, m, hd, hi => by
    rw [List.drop_eq_nil_of_le (by omega)]
    refine Ev.step' ?_
    simp only [spec_l13Run.l0]
    exact Ev.negf (by omega) (Ev.now _)
  | d + 1, i, f, m, hd, hi => by
    have g : i < base.length := by omega
    refine Ev.step' ?_
    simp only [spec_l13Run.l0]
    refine Ev.posf (by omega) (specRun1_ev hb ht i f m _ _ 0 _ rfl (by omega) (by omega) rfl ?_)
    have e := List.drop_eq_getElem_cons g
    rw [e, lrGo, ← e]
    simp only [Nat.zero_add, Nat.add_zero, List.drop_zero]
    by_cases c : (pre (base.drop i) t : Int) > m
    · rw [if_pos c, if_pos c, if_pos c]
      exact specRun0_ev hb ht d (i + 1) _ _ (by omega) (by omega)
    · rw [if_neg c, if_neg c, if_neg c]
      exact specRun0_ev hb ht d (i + 1) _ _ (by omega) (by omega)
theorem specRun_ev {base t : Tx} (hb : base.length ≤ 100000) (ht : t.length ≤ 100000) : Ev (fun k => spec_l13Run.f k base t) (lr base t) := by
  unfold spec_l13Run.f
  exact specRun0_ev hb ht _ 0 0 0 rfl (by omega)
theorem implOf0_ev {base : Tx} (hb : base.length ≤ 10000) : ∀ (n : Nat) (t : Tx) (out : List Dl), t.length ≤ n → n ≤ 10000 → out.length + n ≤ 20000 → (∀ x ∈ out, x.f2.length + n ≤ 20000) → Ev (fun k => impl_deltaOf.l0 k base t out) (dGo base n t out)
  | 0, t, out, h1, h2, h3, h4 => by
    have : t = [] := List.eq_nil_of_length_eq_zero (by omega)
    subst this
    refine Ev.step' ?_
    simp only [impl_deltaOf.l0, dGo]
    exact Ev.negf (by simp) (Ev.now _)
  | n + 1, [], out, h1, h2, h3, h4 => by
    refine Ev.step' ?_
    simp only [impl_deltaOf.l0, dGo]
    exact Ev.negf (by simp) (Ev.now _)
  | n + 1, b :: t, out, h1, h2, h3, h4 => by
    obtain ⟨r1, r2, r3, r4, r5⟩ := lr_run base (b :: t)
    have hw : wrap64 ((out.length : Int) - 1) = (out.length : Int) - 1 := w64 (by omega) (by omega)
    have hlen : ((b :: t).length : Int) ≥ 1 := by rw [List.length_cons]; omega
    refine Ev.step' ?_
    simp only [impl_deltaOf.l0, dGo, hw]
    refine Ev.posf (by omega) (Ev.bind (implRun_ev (by omega) (by omega)) ?_)
    by_cases c : (lr base (b :: t)).2 > 0
    · rw [if_pos c]
      refine Ev.posf c (Ev.posf (by omega) (Ev.posf r2 (Ev.posf r4 ?_)))
      exact implOf0_ev hb n _ _ (by simp at h1 ⊢; omega) (by omega) (by simp; omega) (fun x hx => by simp at hx; rcases hx with hx | rfl; (have := h4 x hx; omega); (simp; omega))
    · rw [if_neg c]
      refine Ev.negf c ?_
      have hd1 : List.drop 1 (b :: t) = t := rfl
      have hr0 : rdOf ByteArray.empty (b :: t) 0 = b := rfl
      simp only [hd1, hr0]
      by_cases g : 0 < out.length
      · refine Ev.posf (by omega) (Ev.posf (by omega) (Ev.posf (by omega) ?_))
        by_cases z : (rd_T39 out ((out.length : Int) - 1)).f1 = 0
        · rw [if_pos ⟨g, z⟩]
          have hm : rd_T39 out ((out.length : Int) - 1) ∈ out := by
            rw [show (out.length : Int) - 1 = ((out.length - 1 : Nat) : Int) by omega, rdD (by omega)]
            exact List.getElem_mem _
          have hf := h4 _ hm
          refine Ev.posf z (Ev.posf (by omega) (Ev.posf (by omega) (Ev.posf (by omega) ?_)))
          rw [show (((out.length : Int) - 1)).toNat = out.length - 1 by omega]
          exact implOf0_ev hb n _ _ (by simp at h1; omega) (by omega) (by simp; omega) (fun x hx => by
            rcases List.mem_or_eq_of_mem_set hx with hx | rfl
            · have := h4 x hx; omega
            · simp; omega)
        · rw [if_neg (fun h => z h.2)]
          refine Ev.negf z (Ev.posf (by omega) (Ev.posf (by omega) (Ev.posf (by omega) ?_)))
          exact implOf0_ev hb n _ _ (by simp at h1; omega) (by omega) (by simp; omega) (fun x hx => by simp at hx; rcases hx with hx | rfl; (have := h4 x hx; omega); (simp; omega))
      · rw [if_neg (fun h => g h.1)]
        refine Ev.negf (by omega) (Ev.posf (by omega) (Ev.posf (by omega) (Ev.posf (by omega) ?_)))
        exact implOf0_ev hb n _ _ (by simp at h1; omega) (by omega) (by simp; omega) (fun x hx => by simp at hx; rcases hx with hx | rfl; (have := h4 x hx; omega); (simp; omega))
theorem implOf_ev {base t : Tx} (hb : base.length ≤ 10000) (ht : t.length ≤ 10000) : Ev (fun k => impl_deltaOf.f k base t) (dOf base t) := by
  unfold impl_deltaOf.f
  exact implOf0_ev hb _ t [] (Nat.le_refl _) ht (by simp; omega) (by simp)
theorem specOf0_ev {base : Tx} (hb : base.length ≤ 10000) : ∀ (n : Nat) (t : Tx) (out : List Dl), t.length ≤ n → n ≤ 10000 → out.length + n ≤ 20000 → (∀ x ∈ out, x.f2.length + n ≤ 20000) → Ev (fun k => spec_l13Of.l0 k base t out) (dGo base n t out)
  | 0, t, out, h1, h2, h3, h4 => by
    have : t = [] := List.eq_nil_of_length_eq_zero (by omega)
    subst this
    refine Ev.step' ?_
    simp only [spec_l13Of.l0, dGo]
    exact Ev.negf (by simp) (Ev.now _)
  | n + 1, [], out, h1, h2, h3, h4 => by
    refine Ev.step' ?_
    simp only [spec_l13Of.l0, dGo]
    exact Ev.negf (by simp) (Ev.now _)
  | n + 1, b :: t, out, h1, h2, h3, h4 => by
    obtain ⟨r1, r2, r3, r4, r5⟩ := lr_run base (b :: t)
    have hw : wrap64 ((out.length : Int) - 1) = (out.length : Int) - 1 := w64 (by omega) (by omega)
    have hlen : ((b :: t).length : Int) ≥ 1 := by rw [List.length_cons]; omega
    refine Ev.step' ?_
    simp only [spec_l13Of.l0, dGo, hw]
    refine Ev.posf (by omega) (Ev.bind (specRun_ev (by omega) (by omega)) ?_)
    by_cases c : (lr base (b :: t)).2 > 0
    · rw [if_pos c]
      refine Ev.posf c (Ev.posf (by omega) (Ev.posf r2 (Ev.posf r4 ?_)))
      exact specOf0_ev hb n _ _ (by simp at h1 ⊢; omega) (by omega) (by simp; omega) (fun x hx => by simp at hx; rcases hx with hx | rfl; (have := h4 x hx; omega); (simp; omega))
    · rw [if_neg c]
      refine Ev.negf c ?_
      have hd1 : List.drop 1 (b :: t) = t := rfl
      have hr0 : rdOf ByteArray.empty (b :: t) 0 = b := rfl
      simp only [hd1, hr0]
      by_cases g : 0 < out.length
      · refine Ev.posf (by omega) (Ev.posf (by omega) (Ev.posf (by omega) ?_))
        by_cases z : (rd_T39 out ((out.length : Int) - 1)).f1 = 0
        · rw [if_pos ⟨g, z⟩]
          have hm : rd_T39 out ((out.length : Int) - 1) ∈ out := by
            rw [show (out.length : Int) - 1 = ((out.length - 1 : Nat) : Int) by omega, rdD (by omega)]
            exact List.getElem_mem _
          have hf := h4 _ hm
          refine Ev.posf z (Ev.posf (by omega) (Ev.posf (by omega) (Ev.posf (by omega) ?_)))
          rw [show (((out.length : Int) - 1)).toNat = out.length - 1 by omega]
          exact specOf0_ev hb n _ _ (by simp at h1; omega) (by omega) (by simp; omega) (fun x hx => by
            rcases List.mem_or_eq_of_mem_set hx with hx | rfl
            · have := h4 x hx; omega
            · simp; omega)
        · rw [if_neg (fun h => z h.2)]
          refine Ev.negf z (Ev.posf (by omega) (Ev.posf (by omega) (Ev.posf (by omega) ?_)))
          exact specOf0_ev hb n _ _ (by simp at h1; omega) (by omega) (by simp; omega) (fun x hx => by simp at hx; rcases hx with hx | rfl; (have := h4 x hx; omega); (simp; omega))
      · rw [if_neg (fun h => g h.1)]
        refine Ev.negf (by omega) (Ev.posf (by omega) (Ev.posf (by omega) (Ev.posf (by omega) ?_)))
        exact specOf0_ev hb n _ _ (by simp at h1; omega) (by omega) (by simp; omega) (fun x hx => by simp at hx; rcases hx with hx | rfl; (have := h4 x hx; omega); (simp; omega))
theorem specOf_ev {base t : Tx} (hb : base.length ≤ 10000) (ht : t.length ≤ 10000) : Ev (fun k => spec_l13Of.f k base t) (dOf base t) := by
  unfold spec_l13Of.f
  exact specOf0_ev hb _ t [] (Nat.le_refl _) ht (by simp; omega) (by simp)
end Go.Proofs.Ytfnhjaiioojbkaa.Q
end
section
namespace Go.Proofs.Ytfnhjaiioojbkaa.Q
open Go.RowKit Go.Proofs.YtfnhjaiioojbkaaW.PrintWords Go.Proofs.YtfnhjaiioojbkaaW.PrintLast Go.Proofs.YtfnhjaiioojbkaaW.PrintMore
attribute [local go_sem] max2_int min2_int max_two min_two max_three min_three max_four min_four   -- for this text's walks alone
set_option linter.unusedVariables false
set_option linter.unusedSimpArgs false
def spec_l1In.f (a0 : Int) (a1 : Int) (a2 : Int) : Option (Bool) := if a0 ≥ a1 then (some (decide (a0 ≤ a2))) else (some false)
set_option maxHeartbeats 8000000 in
set_option maxRecDepth 100000 in
theorem spec_l1In.calls (a0 : Int) (a1 : Int) (a2 : Int) (r : Bool) (w : World) (h : spec_l1In.f a0 a1 a2 = some r) :
 Calls Try.prog 87 #[.int .i64 a0, .int .i64 a1, .int .i64 a2] w fun e w' => e = .returned (.bool r) ∧ Drawn0 w w' := by
 have H : (if a0 ≥ a1 then (some (decide (a0 ≤ a2))) else (some false)) = some r := h; clear h; by_cases c4 : a0 ≥ a1
 ·rw [if_pos c4] at H; have c4b0 : decide (a1 ≤ a0) = true := decide_eq_true c4; clear c4; obtain rfl := Option.some.inj H; go_enter Try.func87, Try.ntmps87; go_wp2; go_ret; exact ⟨by first | rfl | (simp; done) | (simp [*]; done), by repeat (first | exact Drawn0.refl _ | apply Drawn0.step)⟩
 ·rw [if_neg c4] at H; have c4b0 : decide (a1 ≤ a0) = false := decide_eq_false c4; clear c4; obtain rfl := Option.some.inj H; go_enter Try.func87, Try.ntmps87; go_wp2; go_ret; exact ⟨by first | rfl | (simp; done) | (simp [*]; done), by repeat (first | exact Drawn0.refl _ | apply Drawn0.step)⟩
end Go.Proofs.Ytfnhjaiioojbkaa.Q
end
section
namespace Go.Proofs.Ytfnhjaiioojbkaa.Q
open Go.RowKit Go.Proofs.YtfnhjaiioojbkaaW.PrintWords Go.Proofs.YtfnhjaiioojbkaaW.PrintLast Go.Proofs.YtfnhjaiioojbkaaW.PrintMore
attribute [local go_sem] max2_int min2_int max_two min_two max_three min_three max_four min_four   -- for this text's walks alone
set_option linter.unusedVariables false
set_option linter.unusedSimpArgs false
mutual
def spec_l13Ok.l0 : Nat → List (S39) → Int → Option (Bool)
 | 0, _, _ => none
 | k + 1, x0, x3 => if x3 < (x0.length : Int) then (if 0 ≤ x3 then ((spec_l1In.f ((rd_T39 x0 x3).f0) 0 10).bind fun t109 => (if t109 = true then ((spec_l1In.f ((rd_T39 x0 x3).f1) 0 (wrap64 (10 - ((rd_T39 x0 x3).f0)))).bind fun t112 => (if t112 = true then ((spec_l1Ok.f k ((rd_T39 x0 x3).f2)).bind fun t114 => (spec_l13Ok.j1 k x0 x3 (!t114))) else (spec_l13Ok.j1 k x0 x3 true))) else (spec_l13Ok.j1 k x0 x3 true))) else (none)) else (some (decide ((x0.length : Int) ≤ 10)))
def spec_l13Ok.j1 : Nat → List (S39) → Int → Bool → Option (Bool)
 | 0, _, _, _ => none
 | k + 1, x0, x3, x40 => if x40 = true then (some false) else (if 0 ≤ x3 then (if x3 < (x0.length : Int) then (if ((decide (((rd_T39 x0 x3).f1) > 0)) == (decide ((((rd_T39 x0 x3).f2).length : Int) > 0))) = true then (some false) else (if ((rd_T39 x0 x3).f1) = 0 then (if ((rd_T39 x0 x3).f0) = 0 then (spec_l13Ok.l0 k x0 (wrap64 (x3 + 1))) else (some false)) else (spec_l13Ok.l0 k x0 (wrap64 (x3 + 1))))) else (none)) else (none))
end
def spec_l13Ok.f (k : Nat) (l0 : List (S39)) : Option (Bool) := spec_l13Ok.l0 k l0 0
theorem spec_l13Ok.mono_l : ∀ k, (∀ y0 y1, LeO (spec_l13Ok.l0 k y0 y1) (spec_l13Ok.l0 (k + 1) y0 y1)) ∧ (∀ y0 y1 y2, LeO (spec_l13Ok.j1 k y0 y1 y2) (spec_l13Ok.j1 (k + 1) y0 y1 y2))
 | 0 => ⟨fun _ _ r h => by simp [spec_l13Ok.l0] at h, fun _ _ _ r h => by simp [spec_l13Ok.j1] at h⟩
 | k + 1 => by
  obtain ⟨ih0, ih1⟩ := spec_l13Ok.mono_l k; refine ⟨?_, ?_⟩
  ·intro y0 y1
   unfold spec_l13Ok.l0
   repeat' first
   | (with_reducible exact ih0 _ _)
   | (with_reducible exact ih1 _ _ _)
   | (with_reducible exact spec_l1Ok.mono _ _)
   | (with_reducible exact LeO.refl _)
   | (with_reducible exact LeO.none _)
   | (with_reducible refine LeO.ite ?_ ?_)
   | (with_reducible refine LeO.bind ?_ (fun _ => ?_))
   | exact ih0 _ _
   | exact ih1 _ _ _
   | exact spec_l1Ok.mono _ _
   | exact LeO.none _
   | refine LeO.ite ?_ ?_
   | refine LeO.bind ?_ (fun _ => ?_)
  ·intro y0 y1 y2
   unfold spec_l13Ok.j1
   repeat' first
   | (with_reducible exact ih0 _ _)
   | (with_reducible exact ih1 _ _ _)
   | (with_reducible exact spec_l1Ok.mono _ _)
   | (with_reducible exact LeO.refl _)
   | (with_reducible exact LeO.none _)
   | (with_reducible refine LeO.ite ?_ ?_)
   | (with_reducible refine LeO.bind ?_ (fun _ => ?_))
   | exact ih0 _ _
   | exact ih1 _ _ _
   | exact spec_l1Ok.mono _ _
   | exact LeO.none _
   | refine LeO.ite ?_ ?_
   | refine LeO.bind ?_ (fun _ => ?_)
theorem spec_l13Ok.mono : ∀ a0 k, LeO (spec_l13Ok.f k a0) (spec_l13Ok.f (k + 1) a0) := by
 intro a0 k; obtain ⟨ih0, ih1⟩ := spec_l13Ok.mono_l k
 unfold spec_l13Ok.f
 repeat' first
  | (with_reducible exact ih0 _ _)
  | (with_reducible exact ih1 _ _ _)
  | (with_reducible exact spec_l1Ok.mono _ _)
  | (with_reducible exact LeO.refl _)
  | (with_reducible exact LeO.none _)
  | (with_reducible refine LeO.ite ?_ ?_)
  | (with_reducible refine LeO.bind ?_ (fun _ => ?_))
  | exact ih0 _ _
  | exact ih1 _ _ _
  | exact spec_l1Ok.mono _ _
  | exact LeO.none _
  | refine LeO.ite ?_ ?_
  | refine LeO.bind ?_ (fun _ => ?_)
theorem spec_l1In.some (a b c : Int) : ∃ q, spec_l1In.f a b c = some q := by
 unfold spec_l1In.f
 split <;> exact ⟨_, rfl⟩
theorem spec_l13Ok.bad {k : Nat} {l0 : List S39} {i : Int} {r : Bool} (h : spec_l13Ok.j1 k l0 i true = some r) : r = false := by
 cases k with
 | zero => simp [spec_l13Ok.j1] at h
 | succ k => simp only [spec_l13Ok.j1] at h; rw [if_pos trivial] at h; exact (Option.some.inj h).symm
set_option maxHeartbeats 4000000 in
theorem spec_l13Ok.calls (k : Nat) (A0 : Option Addr) (c0 : Nat) (l0 : List S39) (r : Bool) (w : World) (hr0 : Kd.C k39 w A0 l0.length l0) (hc0 : l0.length ≤ c0) (h : spec_l13Ok.f k l0 = some r) :
 Calls Try.prog 61 #[.slice A0 l0.length c0] w fun e w' => e = .returned (.bool r) ∧ Below w.heap.size w w' := by
 have HR0 := Aside0.mk hr0; have hl0 : l0.length ≤ 9223372036854775807 := hr0.2.1; have H := Aside0.mk (show spec_l13Ok.l0 k l0 0 = some r from h); clear hr0 hc0 h; go_enter Try.func61, Try.ntmps61; go_wp2; go_loopg [3] k (fun kq v5 wr => ∃ i : Nat, v5 = .int .i64 i ∧ i ≤ l0.length ∧ Aside0 (spec_l13Ok.l0 kq l0 i = some r) ∧ Aside0 (Drawn0 w wr))
 case atStart => exact ⟨0, rfl, Nat.zero_le _, H, ⟨Drawn0.refl _⟩⟩
 case round =>
  clear H; obtain ⟨i, rfl, hi, HA, HD⟩ := hrel
  cases gk with
  | zero => exact absurd HA.out (by simp [spec_l13Ok.l0])
  | succ k1 =>
   have H := HA.out; clear HA; simp only [spec_l13Ok.l0] at H; by_cases hlt : i < l0.length
   ·rw [if_pos (by omega), if_pos (by omega)] at H; obtain ⟨ad0, A2, c2, rfl, x0, x1, x2, hl2, hC2⟩ := at_T39 (Kd.C_below HR0.out HD.out.below) (i : Int) (by omega) (by omega); simp only [Int.toNat_natCast] at x0 x1 x2; have b0 : decide ((i : Int) < (l0.length : Int)) = true := decide_eq_true (by omega); (have b2 : (i : Int) < (l0.length : Int) := by omega); obtain ⟨X, hX⟩ : ∃ X, X = rd_T39 l0 i := ⟨_, rfl⟩; have HX := Aside0.mk hX; rw [← hX] at x0 x1 x2 H; have XC := Aside0.mk (show Kd.C Kd.string wr A2 X.f2.length X.f2 by rw [hX]; exact hC2); have XL := Aside0.mk (show X.f2.length ≤ c2 by rw [hX]; exact hl2); clear hX; obtain ⟨q1, h1⟩ := spec_l1In.some X.f0 0 10; obtain ⟨q2, h2⟩ := spec_l1In.some X.f1 0 (wrap64 (10 - X.f0)); have H1 := Aside0.mk h1; have H2 := Aside0.mk h2; rw [h1, Option.bind_some] at H; clear hC2 hl2 h1
    cases q1 with
    | false =>
     rw [if_neg (by decide)] at H; obtain rfl := spec_l13Ok.bad H; clear H h2 H2; go_wp2; go_quiet ((go_at_call 87; exact quietD (fun W hW => spec_l1In.calls _ _ _ _ W H1.out))); have HD2 := Aside0.mk (HD.out.step nq); clear HD; go_wp2; go_ret
     exact ⟨rfl, HD2.out.below⟩
    | true =>
     rw [if_pos rfl, h2, Option.bind_some] at H; clear h2
     cases q2 with
     | false =>
      rw [if_neg (by decide)] at H; obtain rfl := spec_l13Ok.bad H; clear H; go_wp2; go_quiet ((go_at_call 87; first | exact quietD (fun W hW => spec_l1In.calls _ _ _ _ W H1.out) | exact quietD (fun W hW => spec_l1In.calls _ _ _ _ W H2.out))); have HD2 := Aside0.mk (HD.out.step nq); clear HD; go_wp2; go_ret
      exact ⟨rfl, HD2.out.below⟩
     | true =>
      rw [if_pos rfl] at H; obtain ⟨q3, h3, H⟩ := Option.bind_eq_some_iff.mp H; have H3 := Aside0.mk h3; clear h3
      cases q3 with
      | false =>
       obtain rfl := spec_l13Ok.bad H; clear H; go_wp2; go_quiet ((first | (go_at_call 87; first | exact quietD (fun W hW => spec_l1In.calls _ _ _ _ W H1.out) | exact quietD (fun W hW => spec_l1In.calls _ _ _ _ W H2.out)) | (go_at_call 71; exact quietD (fun W hW => spec_l1Ok.calls k1 _ _ _ _ W (Kd.C_below XC.out hW.below) XL.out H3.out)))); have HD2 := Aside0.mk (HD.out.step nq); clear HD; go_wp2; go_ret
       exact ⟨rfl, HD2.out.below⟩
      | true =>
       cases k1 with
       | zero => exact absurd H (by simp [spec_l13Ok.j1])
       | succ k2 =>
        simp only [spec_l13Ok.j1, Bool.not_true] at H; rw [if_neg (by decide), if_pos (by omega), if_pos (by omega), ← HX.out] at H; have HH := Aside0.mk H; clear H; go_wp2; go_quiet ((first | (go_at_call 87; first | exact quietD (fun W hW => spec_l1In.calls _ _ _ _ W H1.out) | exact quietD (fun W hW => spec_l1In.calls _ _ _ _ W H2.out)) | (go_at_call 71; exact quietD (fun W hW => spec_l1Ok.calls (k2 + 1) _ _ _ _ W (Kd.C_below XC.out hW.below) XL.out H3.out)))); have HD2 := Aside0.mk (HD.out.step nq); clear HD; (have ew : wrap64 ((i : Int) + 1) = ((i + 1 : Nat) : Int) := by unfold wrap64; omega); have EW := Aside0.mk ew; clear ew; (have next : ∀ q : Prop, (q ↔ spec_l13Ok.l0 k2 l0 (wrap64 ((i : Int) + 1)) = some r) → q → Aside0 (spec_l13Ok.l0 k2 l0 ((i + 1 : Nat) : Int) = some r) := fun q hq h => ⟨by have := hq.mp h; rw [EW.out] at this; exact this⟩); have NX := Aside0.mk next; clear next; by_cases a : X.f1 > 0
        ·by_cases b : (X.f2.length : Int) > 0
         ·have H := HH.out; rw [decide_eq_true a, decide_eq_true b, if_pos (by decide)] at H; obtain rfl := Option.some.inj H; have a1 : decide (0 < X.f1) = true := decide_eq_true a; have b1 : decide (0 < X.f2.length) = true := decide_eq_true (by omega); clear H HH NX; go_wp2; go_quiet (fail); have HD3 := Aside0.mk (HD2.out.step nq); go_wp2; go_ret; exact ⟨rfl, HD3.out.below⟩
         ·have H := HH.out; rw [decide_eq_true a, decide_eq_false b, if_neg (by decide), if_neg (by omega)] at H; have HA := NX.out _ Iff.rfl H; have a1 : decide (0 < X.f1) = true := decide_eq_true a; have b1 : decide (0 < X.f2.length) = false := decide_eq_false (by omega); (have a2 : (X.f1 == 0) = false := by rw [beq_eq_false_iff_ne]; omega); clear H HH NX; go_wp2; go_quiet (fail); have HD3 := Aside0.mk (HD2.out.step nq); go_wp2; go_roundg k2
          case measure => omega
          case rel => exact ⟨i + 1, by go_num, by omega, HA, ⟨by rw [← World.drewN_drewN]; exact HD3.out⟩⟩
        ·by_cases b : (X.f2.length : Int) > 0
         ·have H := HH.out; have a1 : decide (0 < X.f1) = false := decide_eq_false a; have b1 : decide (0 < X.f2.length) = true := decide_eq_true (by omega); rw [decide_eq_false a, decide_eq_true b, if_neg (by decide)] at H; by_cases z : X.f1 = 0
          ·rw [if_pos z] at H; (have a2 : (X.f1 == 0) = true := by simp [z]); by_cases y : X.f0 = 0
           ·rw [if_pos y] at H; have HA := NX.out _ Iff.rfl H; (have a3 : (X.f0 != 0) = false := by simp [y]); clear H HH NX z y; go_wp2; go_quiet (fail); have HD3 := Aside0.mk (HD2.out.step nq); go_wp2; go_roundg k2
            case measure => omega
            case rel => exact ⟨i + 1, by go_num, by omega, HA, ⟨by rw [← World.drewN_drewN]; exact HD3.out⟩⟩
           ·rw [if_neg y] at H; obtain rfl := Option.some.inj H; (have a3 : (X.f0 != 0) = true := by simp [y]); clear H HH NX z y; go_wp2; go_quiet (fail); have HD3 := Aside0.mk (HD2.out.step nq); go_wp2; go_ret; exact ⟨rfl, HD3.out.below⟩
          ·rw [if_neg z] at H; have HA := NX.out _ Iff.rfl H; (have a2 : (X.f1 == 0) = false := by simp [z]); clear H HH NX z; go_wp2; go_quiet (fail); have HD3 := Aside0.mk (HD2.out.step nq); go_wp2; go_roundg k2
           case measure => omega
           case rel => exact ⟨i + 1, by go_num, by omega, HA, ⟨by rw [← World.drewN_drewN]; exact HD3.out⟩⟩
         ·have H := HH.out; rw [decide_eq_false a, decide_eq_false b, if_pos (by decide)] at H; obtain rfl := Option.some.inj H; have a1 : decide (0 < X.f1) = false := decide_eq_false a; have b1 : decide (0 < X.f2.length) = false := decide_eq_false (by omega); clear H HH NX; go_wp2; go_quiet (fail); have HD3 := Aside0.mk (HD2.out.step nq); go_wp2; go_ret; exact ⟨rfl, HD3.out.below⟩
   ·rw [if_neg (by omega)] at H; have e : decide ((l0.length : Int) ≤ 10) = r := Option.some.inj H; (have b0 : ¬ (i : Int) < (l0.length : Int) := by omega); have E := Aside0.mk e; clear H e; go_wp2; go_ret; exact ⟨by rw [← E.out]; rfl, HD.out.below⟩
end Go.Proofs.Ytfnhjaiioojbkaa.Q
end
section
namespace Go.Proofs.Ytfnhjaiioojbkaa.Q
open Go.RowKit Go.Proofs.YtfnhjaiioojbkaaW.PrintWords Go.Proofs.YtfnhjaiioojbkaaW.PrintLast Go.Proofs.YtfnhjaiioojbkaaW.PrintMore
attribute [local go_sem] max2_int min2_int max_two min_two max_three min_three max_four min_four   -- for this text's walks alone
set_option linter.unusedVariables false
set_option linter.unusedSimpArgs false
def spec_l13Do.l0 : Nat → List ByteArray → List (S39) → List ByteArray → Int → Option (List ByteArray × Bool)
 | 0, _, _, _, _ => none
 | k + 1, x0, x1, x6, x7 => if x7 < (x1.length : Int) then (if 0 ≤ x7 then (if (wrap64 (((rd_T39 x1 x7).f0) + ((rd_T39 x1 x7).f1))) > (x0.length : Int) then (some (([] : List ByteArray), false)) else (if 0 ≤ ((rd_T39 x1 x7).f0) then (if ((rd_T39 x1 x7).f0) ≤ (wrap64 (((rd_T39 x1 x7).f0) + ((rd_T39 x1 x7).f1))) then (if (wrap64 (((rd_T39 x1 x7).f0) + ((rd_T39 x1 x7).f1))) ≤ (x0.length : Int) then (if x6.length + ((x0.take ((wrap64 (((rd_T39 x1 x7).f0) + ((rd_T39 x1 x7).f1))) : Int).toNat).drop (((rd_T39 x1 x7).f0) : Int).toNat).length < 8796093022208 then ((some (x6 ++ ((x0.take ((wrap64 (((rd_T39 x1 x7).f0) + ((rd_T39 x1 x7).f1))) : Int).toNat).drop (((rd_T39 x1 x7).f0) : Int).toNat) : List ByteArray)).bind fun y596 => (if y596.length + ((rd_T39 x1 x7).f2).length < 8796093022208 then (spec_l13Do.l0 k x0 x1 (y596 ++ ((rd_T39 x1 x7).f2)) (wrap64 (x7 + 1))) else (none))) else (none)) else (none)) else (none)) else (none))) else (none)) else ((spec_l1Ok.f k x6).bind fun t603 => (if t603 = true then (some (x6, true)) else (some (([] : List ByteArray), false))))
def spec_l13Do.f (k : Nat) (l0 : List ByteArray) (l1 : List (S39)) : Option (List ByteArray × Bool) := spec_l13Do.l0 k l0 l1 (([] : List ByteArray)) 0
theorem spec_l13Do.mono_l : ∀ k, (∀ y0 y1 y2 y3, LeO (spec_l13Do.l0 k y0 y1 y2 y3) (spec_l13Do.l0 (k + 1) y0 y1 y2 y3))
 | 0 => fun _ _ _ _ r h => by simp [spec_l13Do.l0] at h
 | k + 1 => by
  have ih0 := spec_l13Do.mono_l k
  ·intro y0 y1 y2 y3
   unfold spec_l13Do.l0
   repeat' first
   | (with_reducible exact ih0 _ _ _ _)
   | (with_reducible exact spec_l1Ok.mono _ _)
   | (with_reducible exact LeO.refl _)
   | (with_reducible exact LeO.none _)
   | (with_reducible refine LeO.ite ?_ ?_)
   | (with_reducible refine LeO.bind ?_ (fun _ => ?_))
   | exact ih0 _ _ _ _
   | exact spec_l1Ok.mono _ _
   | exact LeO.none _
   | refine LeO.ite ?_ ?_
   | refine LeO.bind ?_ (fun _ => ?_)
theorem spec_l13Do.mono : ∀ a0 a1 k, LeO (spec_l13Do.f k a0 a1) (spec_l13Do.f (k + 1) a0 a1) := by
 intro a0 a1 k; have ih0 := spec_l13Do.mono_l k
 unfold spec_l13Do.f
 repeat' first
  | (with_reducible exact ih0 _ _ _ _)
  | (with_reducible exact spec_l1Ok.mono _ _)
  | (with_reducible exact LeO.refl _)
  | (with_reducible exact LeO.none _)
  | (with_reducible refine LeO.ite ?_ ?_)
  | (with_reducible refine LeO.bind ?_ (fun _ => ?_))
  | exact ih0 _ _ _ _
  | exact spec_l1Ok.mono _ _
  | exact LeO.none _
  | refine LeO.ite ?_ ?_
  | refine LeO.bind ?_ (fun _ => ?_)
def spec_l13Do.T5 : Bool × List (List Nat × List Nat) := (true, [([], []), ([], []), ([0, 1], [0, 1]), ([2], [2]), ([3], [3]), ([], []), ([], []), ([5, 6], [5, 6]), ([7], [7]), ([8], [8]), ([4, 9], [4, 9]), ([], []), ([11], [11]), ([10, 12], [10, 12])])
def spec_l13Do.B5 : List Nat := [0, 0, 3, 7, 15, 0, 0, 96, 224, 480, 1023, 0, 2048, 8191]
theorem spec_l13Do.tab5 : rtab .any (opsOf Try.f83 5) = spec_l13Do.T5 := by kernel_rfl
theorem spec_l13Do.bits5 : waitsOk spec_l13Do.T5.2 spec_l13Do.B5 = true := by kernel_rfl
def spec_l13Do.T7 : Bool × List (List Nat × List Nat) := (true, [([], []), ([], []), ([], []), ([], []), ([2, 3], [2, 3]), ([4], [4]), ([5], [5]), ([], []), ([], []), ([7, 8], [7, 8]), ([9], [9]), ([10], [10]), ([], []), ([], []), ([12, 13], [12, 13]), ([14], [14]), ([15], [15]), ([11, 16], [11, 16]), ([1, 6, 17], [1, 6, 17]), ([0, 18], [0, 18]), ([19, 19, 0, 1, 2, 3, 4, 5, 6, 7, 8, 9, 10, 11, 12, 13, 14, 15, 16, 17, 18, 19], [0, 19])])
def spec_l13Do.B7 : List Nat := [0, 0, 0, 0, 12, 28, 60, 0, 0, 384, 896, 1920, 0, 0, 12288, 28672, 61440, 130944, 262142, 524287, 1048575]
theorem spec_l13Do.tab7 : rtab .any (opsOf Try.f83 7) = spec_l13Do.T7 := by kernel_rfl
theorem spec_l13Do.bits7 : waitsOk spec_l13Do.T7.2 spec_l13Do.B7 = true := by kernel_rfl
set_option maxHeartbeats 8000000 in
set_option maxRecDepth 100000 in
theorem spec_l13Do.calls (k : Nat) (A0 : Option Addr) (c0 : Nat) (l0 : List ByteArray) (A1 : Option Addr) (c1 : Nat) (l1 : List (S39)) (r1 : List ByteArray) (r2 : Bool) (w : World) (hr0 : Kd.C Kd.string w A0 l0.length l0) (hc0 : l0.length ≤ c0) (hr1 : Kd.C k39 w A1 l1.length l1) (hc1 : l1.length ≤ c1) (h : spec_l13Do.f k l0 l1 = some (r1, r2)) :
 Calls Try.prog 83 #[.slice A0 l0.length c0, .slice A1 l1.length c1] w fun e w' => ∃ v0_ : Value, e = .returned (.tuple #[v0_, .bool r2]) ∧ Kd.R Kd.string 9 w' w.heap.size (fun _ => True) v0_ r1 ∧ Below w.heap.size w w' := by
 have HR0 := Aside0.mk hr0; have HC0 := Aside0.mk hc0; clear hr0 hc0; have HR1 := Aside0.mk hr1; have HC1 := Aside0.mk hc1; clear hr1 hc1; have HB := Aside0.mk (Below.refl w.heap.size w); have H : (spec_l13Do.l0 k l0 l1 (([] : List ByteArray)) 0) = some (r1, r2) := h; clear h; obtain ⟨y587, hy587⟩ : ∃ y_ : List ByteArray, y_ = (([] : List ByteArray)) := ⟨_, rfl⟩; (replace H : (spec_l13Do.l0 k l0 l1 y587 0) = some (r1, r2) := by first | (rw [hy587]; with_reducible exact H) | (have H2_ := (Option.bind_some _ _).symm.trans H; rw [hy587]; with_reducible exact H2_) | (have H2_ := (Option.bind_some _ _).symm.trans H; with_reducible exact H2_) | with_reducible exact H | (rw [hy587]; exact H) | exact H); have Ny587 := Aside0.mk hy587; clear hy587; have H' := Aside0.mk H; clear H; go_enter Try.func83, Try.ntmps83; go_wp2_with (first | ((with_reducible refine gate_dst (N := 8) rfl ?_); refine Kd.R_lit Kd.string _ 9 ?hg (N := 8) ?hd (xs := ([] : List ByteArray)) (inner := []) (ok := fun _ => True) (okp := fun _ => True) ?hr ?hp (fun _ hk => hk) trivial (Below.refl _ _) (Nat.le_refl _) (by simp) ?_; (case hd => rfl); (case hg => rfl); (case hr => first | (go_simp; done) | (go_simp; rfl)); (case hp => exact (Reps.none _ _)); intro v588 w3 ho4 hb hg_ hnew_; clear hg_ hnew_; (first | rw [← Ny587.out] at ho4 | (simp only [Int.reduceToNat] at ho4; rw [← Ny587.out] at ho4)); have n0_ := Aside0.mk (Kd.R_lower ho4 (below_size (by repeat (first | (with_reducible first | exact HB.out | apply below_alloc | apply pw_below_drewN | apply below_drew1) | exact HB.out)))); have n1_ := Aside0.mk (below_step (by repeat (first | (with_reducible first | exact HB.out | apply below_alloc | apply pw_below_drewN | apply below_drew1) | exact HB.out)) hb); clear HB; have HO589 := n0_; have HB := n1_; clear n0_ n1_; clear hb ho4)); go_loopg [6, 7] k (fun kq v6 v7 w' => ∃ (x6_1 : List ByteArray) (x7_1 : Int), v7 = .int .i64 x7_1 ∧ Aside0 (spec_l13Do.l0 kq l0 l1 x6_1 x7_1 = some (r1, r2)) ∧ Aside0 (kq ≤ k) ∧ Aside0 (Kd.R Kd.string 9 w' w.heap.size (fun _ => True) v6 x6_1) ∧ Aside0 (Below w.heap.size w w'))
 case atStart => exact ⟨(y587), (0), (by first | rfl | (simp; done) | (simp [*]; done)), H', ⟨Nat.le_refl _⟩, ⟨by (with_reducible repeat (first | apply Kd.R_alloc | apply Kd.R_drewN | apply Kd.R_drew)); exact HO589.out⟩, ⟨by repeat (first | (with_reducible first | exact HB.out | apply below_alloc | apply pw_below_drewN | apply below_drew1) | exact HB.out)⟩⟩
 case round =>
  clear H'; (try clear c1); (try clear p2); obtain ⟨x6_1, x7_1, rfl, HA, HK1, HO_6, HB⟩ := hrel
  cases gk with
  | zero => exact absurd HA.out (by simp [spec_l13Do.l0])
  | succ k1 =>
   have H := HA.out; clear HA; simp only [spec_l13Do.l0] at H; by_cases c5 : x7_1 < (l1.length : Int)
   ·rw [if_pos c5] at H; have c5b0 : decide (x7_1 < (l1.length : Int)) = true := decide_eq_true c5; clear c5; by_cases c6 : 0 ≤ x7_1
    ·rw [if_pos c6] at H; have c6b0 : decide (0 ≤ x7_1) = true := decide_eq_true c6; clear c6; by_cases c7 : (wrap64 (((rd_T39 l1 x7_1).f0) + ((rd_T39 l1 x7_1).f1))) > (l0.length : Int)
     ·rw [if_pos c7] at H; have c7b0 : decide ((l0.length : Int) < (wrap64 (((rd_T39 l1 x7_1).f0) + ((rd_T39 l1 x7_1).f1)))) = true := decide_eq_true c7; clear c7; simp only [Option.some.injEq, Prod.mk.injEq] at H; obtain ⟨rfl, rfl⟩ := H; (try go_wp2); have n0_ := Aside0.mk (Kd.R_drew HO_6.out); have n1_ := Aside0.mk (below_drew1 HB.out); clear HO_6; clear HB; have HO_6 := n0_; have HB := n1_; clear n0_ n1_; have p590 : 0 ≤ (x7_1 : Int) := of_decide_eq_true (by assumption); have q590 : x7_1 < (l1.length : Int) := of_decide_eq_true (by assumption); obtain ⟨ad590, A590_2, c590_2, e590, hx590_0, hx590_1, hx590_2, hl590_2, hi590_2⟩ := at_T39 HR1.out x7_1 p590 q590; have hw590_2 := hx590_2; have hw590_1 := hx590_1; have hw590_0 := hx590_0; cases e590; replace hx590_0 := (HB.out.cell (World.block_lt_of_cell? w _ hx590_0)).trans hx590_0; replace hx590_1 := (HB.out.cell (World.block_lt_of_cell? w _ hx590_1)).trans hx590_1; replace hx590_2 := (HB.out.cell (World.block_lt_of_cell? w _ hx590_2)).trans hx590_2; have HR590_2 := Aside0.mk hi590_2; have HC590_2 := Aside0.mk hl590_2; clear hi590_2 hl590_2; replace p590 := eq_true p590; replace q590 := eq_true q590; have p591 : 0 ≤ (x7_1 : Int) := of_decide_eq_true (by assumption); have q591 : x7_1 < (l1.length : Int) := of_decide_eq_true (by assumption); obtain ⟨ad591, A591_2, c591_2, e591, hx591_0, hx591_1, hx591_2, hl591_2, hi591_2⟩ := at_T39 HR1.out x7_1 p591 q591; have hw591_2 := hx591_2; have hw591_1 := hx591_1; have hw591_0 := hx591_0; obtain rfl : ad590 = ad591 := (by injection e591); replace hx591_0 := (HB.out.cell (World.block_lt_of_cell? w _ hx591_0)).trans hx591_0; replace hx591_1 := (HB.out.cell (World.block_lt_of_cell? w _ hx591_1)).trans hx591_1; replace hx591_2 := (HB.out.cell (World.block_lt_of_cell? w _ hx591_2)).trans hx591_2; have HR591_2 := Aside0.mk hi591_2; have HC591_2 := Aside0.mk hl591_2; clear hi591_2 hl591_2; replace p591 := eq_true p591; replace q591 := eq_true q591; have ea_ := Option.some.inj (hx590_2.symm.trans hx591_2); (injection ea_ with ea_ en_ ec_); subst ea_; subst ec_; clear en_; refine start_ (n := 14) (S := fun w' => w'.cell? (ad590.add ((x7_1).toNat * 3)) = some (.int .i64 ((rd_T39 l1 x7_1).f0)) ∧ w'.cell? ⟨(ad590.add ((x7_1).toNat * 3)).block, (ad590.add ((x7_1).toNat * 3)).off + 1, none⟩ = some (.int .i64 ((rd_T39 l1 x7_1).f1)) ∧ w'.cell? ⟨(ad590.add ((x7_1).toNat * 3)).block, (ad590.add ((x7_1).toNat * 3)).off + 2, none⟩ = some (.slice A590_2 ((rd_T39 l1 x7_1).f2).length c590_2) ∧ w'.cell? (ad590.add ((x7_1).toNat * 3)) = some (.int .i64 ((rd_T39 l1 x7_1).f0)) ∧ w'.cell? ⟨(ad590.add ((x7_1).toNat * 3)).block, (ad590.add ((x7_1).toNat * 3)).off + 1, none⟩ = some (.int .i64 ((rd_T39 l1 x7_1).f1)) ∧ w'.cell? ⟨(ad590.add ((x7_1).toNat * 3)).block, (ad590.add ((x7_1).toNat * 3)).off + 2, none⟩ = some (.slice A590_2 ((rd_T39 l1 x7_1).f2).length c590_2)) (ds := []) #[f_, f_, f_, f_, f_, f_, f_, f_, f_, f_, f_, f_, f_, f_] (by kernel_rfl) rfl rfl ⟨((HB.out.cell (World.block_lt_of_cell? w _ hw590_0)).trans hw590_0), ((HB.out.cell (World.block_lt_of_cell? w _ hw590_1)).trans hw590_1), ((HB.out.cell (World.block_lt_of_cell? w _ hw590_2)).trans hw590_2), ((HB.out.cell (World.block_lt_of_cell? w _ hw591_0)).trans hw591_0), ((HB.out.cell (World.block_lt_of_cell? w _ hw591_1)).trans hw591_1), ((HB.out.cell (World.block_lt_of_cell? w _ hw591_2)).trans hw591_2)⟩ (fun hHeld => ?_); refine with_tabW spec_l13Do.tab5 spec_l13Do.bits5 (fun HT_ HW_ => ?_)
      generalize wr.drew = w8 at HO_6 HB HR590_2 HR591_2 hx590_0 hx590_1 hx590_2 hx591_0 hx591_1 hx591_2 hHeld ⊢; refine pure_ (i := 0) (N := some 15) (v := ?_) (a' := ?_) #[t_, f_, f_, f_, f_, f_, f_, f_, f_, f_, f_, f_, f_, f_] rfl rfl (any_of HT_.out (by kernel_rfl)) (fun _ _ _ h => h) (Or.inl ⟨by rfl, ?_⟩) ?_ ?_
      rotate_left
      ·intro w'; go_simp
       with_reducible rfl
      rotate_left
      ·simp only [Act.put, List.setIfInBounds_toArray, List.set_cons_zero, List.set_cons_succ, i64_w, i32_w]
       rfl
      refine pure_ (i := 1) (N := some 16) (v := ?_) (a' := ?_) #[t_, t_, f_, f_, f_, f_, f_, f_, f_, f_, f_, f_, f_, f_] rfl rfl (any_of HT_.out (by kernel_rfl)) (fun _ _ _ h => h) (Or.inl ⟨by rfl, ?_⟩) ?_ ?_
      rotate_left
      ·intro w'; go_simp
       with_reducible rfl
      rotate_left
      ·simp only [Act.put, List.setIfInBounds_toArray, List.set_cons_zero, List.set_cons_succ, i64_w, i32_w]
       rfl
      refine pure_ (i := 2) (N := some 17) (v := ?_) (a' := ?_) #[t_, t_, t_, f_, f_, f_, f_, f_, f_, f_, f_, f_, f_, f_] rfl rfl (any_of HT_.out (by kernel_rfl)) (fun _ _ _ h => h) (Or.inl ⟨by rfl, ?_⟩) ?_ ?_
      rotate_left
      ·intro w'; go_simp
       with_reducible rfl
      rotate_left
      ·simp only [Act.put, List.setIfInBounds_toArray, List.set_cons_zero, List.set_cons_succ, i64_w, i32_w]
       rfl
      refine pure_ (i := 3) (N := some 18) (v := ?_) (a' := ?_) #[t_, t_, t_, t_, f_, f_, f_, f_, f_, f_, f_, f_, f_, f_] rfl rfl (any_of HT_.out (by kernel_rfl)) (fun _ _ _ h => h) (Or.inl ⟨by rfl, ?_⟩) ?_ ?_
      rotate_left
      ·intro w'; go_simp
       with_reducible rfl
      rotate_left
      ·simp only [Act.put, List.setIfInBounds_toArray, List.set_cons_zero, List.set_cons_succ, i64_w, i32_w]
       rfl
      refine pure_ (i := 5) (N := some 20) (v := ?_) (a' := ?_) #[t_, t_, t_, t_, f_, t_, f_, f_, f_, f_, f_, f_, f_, f_] rfl rfl (any_of HT_.out (by kernel_rfl)) (fun _ _ _ h => h) (Or.inl ⟨by rfl, ?_⟩) ?_ ?_
      rotate_left
      ·intro w'; go_simp
       with_reducible rfl
      rotate_left
      ·simp only [Act.put, List.setIfInBounds_toArray, List.set_cons_zero, List.set_cons_succ, i64_w, i32_w]
       rfl
      refine pure_ (i := 6) (N := some 21) (v := ?_) (a' := ?_) #[t_, t_, t_, t_, f_, t_, t_, f_, f_, f_, f_, f_, f_, f_] rfl rfl (any_of HT_.out (by kernel_rfl)) (fun _ _ _ h => h) (Or.inl ⟨by rfl, ?_⟩) ?_ ?_
      rotate_left
      ·intro w'; go_simp
       with_reducible rfl
      rotate_left
      ·simp only [Act.put, List.setIfInBounds_toArray, List.set_cons_zero, List.set_cons_succ, i64_w, i32_w]
       rfl
      refine pure_ (i := 7) (N := some 22) (v := ?_) (a' := ?_) #[t_, t_, t_, t_, f_, t_, t_, t_, f_, f_, f_, f_, f_, f_] rfl rfl (any_of HT_.out (by kernel_rfl)) (fun _ _ _ h => h) (Or.inl ⟨by rfl, ?_⟩) ?_ ?_
      rotate_left
      ·intro w'; go_simp
       with_reducible rfl
      rotate_left
      ·simp only [Act.put, List.setIfInBounds_toArray, List.set_cons_zero, List.set_cons_succ, i64_w, i32_w]
       rfl
      refine pure_ (i := 8) (N := some 23) (v := ?_) (a' := ?_) #[t_, t_, t_, t_, f_, t_, t_, t_, t_, f_, f_, f_, f_, f_] rfl rfl (any_of HT_.out (by kernel_rfl)) (fun _ _ _ h => h) (Or.inl ⟨by rfl, ?_⟩) ?_ ?_
      rotate_left
      ·intro w'; go_simp
       with_reducible rfl
      rotate_left
      ·simp only [Act.put, List.setIfInBounds_toArray, List.set_cons_zero, List.set_cons_succ, i64_w, i32_w]
       rfl
      refine pure_ (i := 11) (N := some 26) (v := ?_) (a' := ?_) #[t_, t_, t_, t_, f_, t_, t_, t_, t_, f_, f_, t_, f_, f_] rfl rfl (any_of HT_.out (by kernel_rfl)) (fun _ _ _ h => h) (Or.inl ⟨by rfl, ?_⟩) ?_ ?_
      rotate_left
      ·intro w'; go_simp
       with_reducible rfl
      rotate_left
      ·simp only [Act.put, List.setIfInBounds_toArray, List.set_cons_zero, List.set_cons_succ, i64_w, i32_w]
       rfl
      refine pure_ (i := 12) (N := some 27) (v := ?_) (a' := ?_) #[t_, t_, t_, t_, f_, t_, t_, t_, t_, f_, f_, t_, t_, f_] rfl rfl (any_of HT_.out (by kernel_rfl)) (fun _ _ _ h => h) (Or.inl ⟨by rfl, ?_⟩) ?_ ?_
      rotate_left
      ·intro w'; go_simp
       with_reducible rfl
      rotate_left
      ·simp only [Act.put, List.setIfInBounds_toArray, List.set_cons_zero, List.set_cons_succ, i64_w, i32_w]
       rfl
      refine take_ (i := 4) (N := some 19) (v := ?_) (a' := ?_) #[t_, t_, t_, t_, t_, t_, t_, t_, t_, f_, f_, t_, t_, f_] rfl rfl (take_ofW HT_.out HW_.out (by kernel_rfl)) (fun _ _ _ h => h) (Or.inl ⟨by rfl, ?_⟩) hHeld ?_ ?_
      rotate_left
      ·rintro w' ⟨s0, s1, s2, s3, s4, s5⟩; go_simp
       with_reducible rfl
      rotate_left
      ·simp only [Act.put, List.setIfInBounds_toArray, List.set_cons_zero, List.set_cons_succ, i64_w, i32_w]
       rfl
      refine take_ (i := 9) (N := some 24) (v := ?_) (a' := ?_) #[t_, t_, t_, t_, t_, t_, t_, t_, t_, t_, f_, t_, t_, f_] rfl rfl (take_ofW HT_.out HW_.out (by kernel_rfl)) (fun _ _ _ h => h) (Or.inl ⟨by rfl, ?_⟩) hHeld ?_ ?_
      rotate_left
      ·rintro w' ⟨s0, s1, s2, s3, s4, s5⟩; go_simp
       with_reducible rfl
      rotate_left
      ·simp only [Act.put, List.setIfInBounds_toArray, List.set_cons_zero, List.set_cons_succ, i64_w, i32_w]
       rfl
      refine pure_ (i := 10) (N := some 25) (v := ?_) (a' := ?_) #[t_, t_, t_, t_, t_, t_, t_, t_, t_, t_, t_, t_, t_, f_] rfl rfl (any_of HT_.out (by kernel_rfl)) (fun _ _ _ h => h) (Or.inl ⟨by rfl, ?_⟩) ?_ ?_
      rotate_left
      ·intro w'; go_simp
       with_reducible rfl
      rotate_left
      ·simp only [Act.put, List.setIfInBounds_toArray, List.set_cons_zero, List.set_cons_succ, i64_w, i32_w]
       rfl
      refine pure_ (i := 13) (N := some 28) (v := ?_) (a' := ?_) #[t_, t_, t_, t_, t_, t_, t_, t_, t_, t_, t_, t_, t_, t_] rfl rfl (any_of HT_.out (by kernel_rfl)) (fun _ _ _ h => h) (Or.inl ⟨by rfl, ?_⟩) ?_ ?_
      rotate_left
      ·intro w'; go_simp
       with_reducible rfl
      rotate_left
      ·simp only [Act.put, List.setIfInBounds_toArray, List.set_cons_zero, List.set_cons_succ, i64_w, i32_w]
       rfl
      refine done_ (done_of HT_.out (by kernel_rfl)) ?_; (try go_wp2); go_ret2; exact ⟨_, by first | rfl | (simp <;> rfl) | (simp [*] <;> rfl), by first | exact Kd.R_nil _ _ _ _ _ | exact Kd.N_nil _ _ _ _ _ | exact Kd.V_nil _ _ _ _ _ | exact Kd.Q_nil _ _ _ _ _ | exact Kd.S_nil _ _ _ _ _, by repeat (first | (with_reducible first | exact HB.out | apply below_alloc | apply pw_below_drewN | apply below_drew1) | exact HB.out)⟩
     ·rw [if_neg c7] at H; have c7b0 : decide ((l0.length : Int) < (wrap64 (((rd_T39 l1 x7_1).f0) + ((rd_T39 l1 x7_1).f1)))) = false := decide_eq_false c7; clear c7; by_cases c9 : 0 ≤ ((rd_T39 l1 x7_1).f0)
      ·rw [if_pos c9] at H; have c9b0 := eq_true c9; have c9b1 : decide (0 ≤ ((rd_T39 l1 x7_1).f0)) = true := decide_eq_true c9; clear c9; by_cases c10 : ((rd_T39 l1 x7_1).f0) ≤ (wrap64 (((rd_T39 l1 x7_1).f0) + ((rd_T39 l1 x7_1).f1)))
       ·rw [if_pos c10] at H; have c10b0 := eq_true c10; have c10b1 : decide (((rd_T39 l1 x7_1).f0) ≤ (wrap64 (((rd_T39 l1 x7_1).f0) + ((rd_T39 l1 x7_1).f1)))) = true := decide_eq_true c10; by_cases c11 : (wrap64 (((rd_T39 l1 x7_1).f0) + ((rd_T39 l1 x7_1).f1))) ≤ (l0.length : Int)
        ·rw [if_pos c11] at H; have c11b0 := eq_true c11; have c11b1 : decide ((wrap64 (((rd_T39 l1 x7_1).f0) + ((rd_T39 l1 x7_1).f1))) ≤ (l0.length : Int)) = true := decide_eq_true c11; by_cases c12 : x6_1.length + ((l0.take ((wrap64 (((rd_T39 l1 x7_1).f0) + ((rd_T39 l1 x7_1).f1))) : Int).toNat).drop (((rd_T39 l1 x7_1).f0) : Int).toNat).length < 8796093022208
         ·rw [if_pos c12] at H; have LMc12 := Aside0.mk c12; clear c12; obtain ⟨y596, hy596⟩ : ∃ y_ : List ByteArray, y_ = (x6_1 ++ ((l0.take ((wrap64 (((rd_T39 l1 x7_1).f0) + ((rd_T39 l1 x7_1).f1))) : Int).toNat).drop (((rd_T39 l1 x7_1).f0) : Int).toNat)) := ⟨_, rfl⟩; (replace H : (if y596.length + ((rd_T39 l1 x7_1).f2).length < 8796093022208 then (spec_l13Do.l0 k1 l0 l1 (y596 ++ ((rd_T39 l1 x7_1).f2)) (wrap64 (x7_1 + 1))) else (none)) = some (r1, r2) := by first | (rw [hy596]; with_reducible exact H) | (have H2_ := (Option.bind_some _ _).symm.trans H; rw [hy596]; with_reducible exact H2_) | (have H2_ := (Option.bind_some _ _).symm.trans H; with_reducible exact H2_) | with_reducible exact H | (rw [hy596]; exact H) | exact H); have Ny596 := Aside0.mk hy596; clear hy596; by_cases c13 : y596.length + ((rd_T39 l1 x7_1).f2).length < 8796093022208
          ·rw [if_pos c13] at H; have LMc13 := Aside0.mk c13; clear c13; obtain ⟨y600, hy600⟩ : ∃ y_ : List ByteArray, y_ = (y596 ++ ((rd_T39 l1 x7_1).f2)) := ⟨_, rfl⟩; (replace H : (spec_l13Do.l0 k1 l0 l1 y600 (wrap64 (x7_1 + 1))) = some (r1, r2) := by first | (rw [hy600]; with_reducible exact H) | (have H2_ := (Option.bind_some _ _).symm.trans H; rw [hy600]; with_reducible exact H2_) | (have H2_ := (Option.bind_some _ _).symm.trans H; with_reducible exact H2_) | with_reducible exact H | (rw [hy600]; exact H) | exact H); have Ny600 := Aside0.mk hy600; clear hy600; have H' := Aside0.mk H; clear H; (try go_wp2); have n0_ := Aside0.mk (Kd.R_drew HO_6.out); have n1_ := Aside0.mk (below_drew1 HB.out); clear HO_6; clear HB; have HO_6 := n0_; have HB := n1_; clear n0_ n1_; have p590 : 0 ≤ (x7_1 : Int) := of_decide_eq_true (by assumption); have q590 : x7_1 < (l1.length : Int) := of_decide_eq_true (by assumption); obtain ⟨ad590, A590_2, c590_2, e590, hx590_0, hx590_1, hx590_2, hl590_2, hi590_2⟩ := at_T39 HR1.out x7_1 p590 q590; have hw590_2 := hx590_2; have hw590_1 := hx590_1; have hw590_0 := hx590_0; cases e590; replace hx590_0 := (HB.out.cell (World.block_lt_of_cell? w _ hx590_0)).trans hx590_0; replace hx590_1 := (HB.out.cell (World.block_lt_of_cell? w _ hx590_1)).trans hx590_1; replace hx590_2 := (HB.out.cell (World.block_lt_of_cell? w _ hx590_2)).trans hx590_2; have HR590_2 := Aside0.mk hi590_2; have HC590_2 := Aside0.mk hl590_2; clear hi590_2 hl590_2; replace p590 := eq_true p590; replace q590 := eq_true q590; have p591 : 0 ≤ (x7_1 : Int) := of_decide_eq_true (by assumption); have q591 : x7_1 < (l1.length : Int) := of_decide_eq_true (by assumption); obtain ⟨ad591, A591_2, c591_2, e591, hx591_0, hx591_1, hx591_2, hl591_2, hi591_2⟩ := at_T39 HR1.out x7_1 p591 q591; have hw591_2 := hx591_2; have hw591_1 := hx591_1; have hw591_0 := hx591_0; obtain rfl : ad590 = ad591 := (by injection e591); replace hx591_0 := (HB.out.cell (World.block_lt_of_cell? w _ hx591_0)).trans hx591_0; replace hx591_1 := (HB.out.cell (World.block_lt_of_cell? w _ hx591_1)).trans hx591_1; replace hx591_2 := (HB.out.cell (World.block_lt_of_cell? w _ hx591_2)).trans hx591_2; have HR591_2 := Aside0.mk hi591_2; have HC591_2 := Aside0.mk hl591_2; clear hi591_2 hl591_2; replace p591 := eq_true p591; replace q591 := eq_true q591; have ea_ := Option.some.inj (hx590_2.symm.trans hx591_2); (injection ea_ with ea_ en_ ec_); subst ea_; subst ec_; clear en_; refine start_ (n := 14) (S := fun w' => w'.cell? (ad590.add ((x7_1).toNat * 3)) = some (.int .i64 ((rd_T39 l1 x7_1).f0)) ∧ w'.cell? ⟨(ad590.add ((x7_1).toNat * 3)).block, (ad590.add ((x7_1).toNat * 3)).off + 1, none⟩ = some (.int .i64 ((rd_T39 l1 x7_1).f1)) ∧ w'.cell? ⟨(ad590.add ((x7_1).toNat * 3)).block, (ad590.add ((x7_1).toNat * 3)).off + 2, none⟩ = some (.slice A590_2 ((rd_T39 l1 x7_1).f2).length c590_2) ∧ w'.cell? (ad590.add ((x7_1).toNat * 3)) = some (.int .i64 ((rd_T39 l1 x7_1).f0)) ∧ w'.cell? ⟨(ad590.add ((x7_1).toNat * 3)).block, (ad590.add ((x7_1).toNat * 3)).off + 1, none⟩ = some (.int .i64 ((rd_T39 l1 x7_1).f1)) ∧ w'.cell? ⟨(ad590.add ((x7_1).toNat * 3)).block, (ad590.add ((x7_1).toNat * 3)).off + 2, none⟩ = some (.slice A590_2 ((rd_T39 l1 x7_1).f2).length c590_2)) (ds := []) #[f_, f_, f_, f_, f_, f_, f_, f_, f_, f_, f_, f_, f_, f_] (by kernel_rfl) rfl rfl ⟨((HB.out.cell (World.block_lt_of_cell? w _ hw590_0)).trans hw590_0), ((HB.out.cell (World.block_lt_of_cell? w _ hw590_1)).trans hw590_1), ((HB.out.cell (World.block_lt_of_cell? w _ hw590_2)).trans hw590_2), ((HB.out.cell (World.block_lt_of_cell? w _ hw591_0)).trans hw591_0), ((HB.out.cell (World.block_lt_of_cell? w _ hw591_1)).trans hw591_1), ((HB.out.cell (World.block_lt_of_cell? w _ hw591_2)).trans hw591_2)⟩ (fun hHeld => ?_); refine with_tabW spec_l13Do.tab5 spec_l13Do.bits5 (fun HT_ HW_ => ?_)
           generalize wr.drew = w14 at HO_6 HB HR590_2 HR591_2 hx590_0 hx590_1 hx590_2 hx591_0 hx591_1 hx591_2 hHeld ⊢; refine pure_ (i := 0) (N := some 15) (v := ?_) (a' := ?_) #[t_, f_, f_, f_, f_, f_, f_, f_, f_, f_, f_, f_, f_, f_] rfl rfl (any_of HT_.out (by kernel_rfl)) (fun _ _ _ h => h) (Or.inl ⟨by rfl, ?_⟩) ?_ ?_
           rotate_left
           ·intro w'; go_simp
            with_reducible rfl
           rotate_left
           ·simp only [Act.put, List.setIfInBounds_toArray, List.set_cons_zero, List.set_cons_succ, i64_w, i32_w]
            rfl
           refine pure_ (i := 1) (N := some 16) (v := ?_) (a' := ?_) #[t_, t_, f_, f_, f_, f_, f_, f_, f_, f_, f_, f_, f_, f_] rfl rfl (any_of HT_.out (by kernel_rfl)) (fun _ _ _ h => h) (Or.inl ⟨by rfl, ?_⟩) ?_ ?_
           rotate_left
           ·intro w'; go_simp
            with_reducible rfl
           rotate_left
           ·simp only [Act.put, List.setIfInBounds_toArray, List.set_cons_zero, List.set_cons_succ, i64_w, i32_w]
            rfl
           refine pure_ (i := 2) (N := some 17) (v := ?_) (a' := ?_) #[t_, t_, t_, f_, f_, f_, f_, f_, f_, f_, f_, f_, f_, f_] rfl rfl (any_of HT_.out (by kernel_rfl)) (fun _ _ _ h => h) (Or.inl ⟨by rfl, ?_⟩) ?_ ?_
           rotate_left
           ·intro w'; go_simp
            with_reducible rfl
           rotate_left
           ·simp only [Act.put, List.setIfInBounds_toArray, List.set_cons_zero, List.set_cons_succ, i64_w, i32_w]
            rfl
           refine pure_ (i := 3) (N := some 18) (v := ?_) (a' := ?_) #[t_, t_, t_, t_, f_, f_, f_, f_, f_, f_, f_, f_, f_, f_] rfl rfl (any_of HT_.out (by kernel_rfl)) (fun _ _ _ h => h) (Or.inl ⟨by rfl, ?_⟩) ?_ ?_
           rotate_left
           ·intro w'; go_simp
            with_reducible rfl
           rotate_left
           ·simp only [Act.put, List.setIfInBounds_toArray, List.set_cons_zero, List.set_cons_succ, i64_w, i32_w]
            rfl
           refine pure_ (i := 5) (N := some 20) (v := ?_) (a' := ?_) #[t_, t_, t_, t_, f_, t_, f_, f_, f_, f_, f_, f_, f_, f_] rfl rfl (any_of HT_.out (by kernel_rfl)) (fun _ _ _ h => h) (Or.inl ⟨by rfl, ?_⟩) ?_ ?_
           rotate_left
           ·intro w'; go_simp
            with_reducible rfl
           rotate_left
           ·simp only [Act.put, List.setIfInBounds_toArray, List.set_cons_zero, List.set_cons_succ, i64_w, i32_w]
            rfl
           refine pure_ (i := 6) (N := some 21) (v := ?_) (a' := ?_) #[t_, t_, t_, t_, f_, t_, t_, f_, f_, f_, f_, f_, f_, f_] rfl rfl (any_of HT_.out (by kernel_rfl)) (fun _ _ _ h => h) (Or.inl ⟨by rfl, ?_⟩) ?_ ?_
           rotate_left
           ·intro w'; go_simp
            with_reducible rfl
           rotate_left
           ·simp only [Act.put, List.setIfInBounds_toArray, List.set_cons_zero, List.set_cons_succ, i64_w, i32_w]
            rfl
           refine pure_ (i := 7) (N := some 22) (v := ?_) (a' := ?_) #[t_, t_, t_, t_, f_, t_, t_, t_, f_, f_, f_, f_, f_, f_] rfl rfl (any_of HT_.out (by kernel_rfl)) (fun _ _ _ h => h) (Or.inl ⟨by rfl, ?_⟩) ?_ ?_
           rotate_left
           ·intro w'; go_simp
            with_reducible rfl
           rotate_left
           ·simp only [Act.put, List.setIfInBounds_toArray, List.set_cons_zero, List.set_cons_succ, i64_w, i32_w]
            rfl
           refine pure_ (i := 8) (N := some 23) (v := ?_) (a' := ?_) #[t_, t_, t_, t_, f_, t_, t_, t_, t_, f_, f_, f_, f_, f_] rfl rfl (any_of HT_.out (by kernel_rfl)) (fun _ _ _ h => h) (Or.inl ⟨by rfl, ?_⟩) ?_ ?_
           rotate_left
           ·intro w'; go_simp
            with_reducible rfl
           rotate_left
           ·simp only [Act.put, List.setIfInBounds_toArray, List.set_cons_zero, List.set_cons_succ, i64_w, i32_w]
            rfl
           refine pure_ (i := 11) (N := some 26) (v := ?_) (a' := ?_) #[t_, t_, t_, t_, f_, t_, t_, t_, t_, f_, f_, t_, f_, f_] rfl rfl (any_of HT_.out (by kernel_rfl)) (fun _ _ _ h => h) (Or.inl ⟨by rfl, ?_⟩) ?_ ?_
           rotate_left
           ·intro w'; go_simp
            with_reducible rfl
           rotate_left
           ·simp only [Act.put, List.setIfInBounds_toArray, List.set_cons_zero, List.set_cons_succ, i64_w, i32_w]
            rfl
           refine pure_ (i := 12) (N := some 27) (v := ?_) (a' := ?_) #[t_, t_, t_, t_, f_, t_, t_, t_, t_, f_, f_, t_, t_, f_] rfl rfl (any_of HT_.out (by kernel_rfl)) (fun _ _ _ h => h) (Or.inl ⟨by rfl, ?_⟩) ?_ ?_
           rotate_left
           ·intro w'; go_simp
            with_reducible rfl
           rotate_left
           ·simp only [Act.put, List.setIfInBounds_toArray, List.set_cons_zero, List.set_cons_succ, i64_w, i32_w]
            rfl
           refine take_ (i := 4) (N := some 19) (v := ?_) (a' := ?_) #[t_, t_, t_, t_, t_, t_, t_, t_, t_, f_, f_, t_, t_, f_] rfl rfl (take_ofW HT_.out HW_.out (by kernel_rfl)) (fun _ _ _ h => h) (Or.inl ⟨by rfl, ?_⟩) hHeld ?_ ?_
           rotate_left
           ·rintro w' ⟨s0, s1, s2, s3, s4, s5⟩; go_simp
            with_reducible rfl
           rotate_left
           ·simp only [Act.put, List.setIfInBounds_toArray, List.set_cons_zero, List.set_cons_succ, i64_w, i32_w]
            rfl
           refine take_ (i := 9) (N := some 24) (v := ?_) (a' := ?_) #[t_, t_, t_, t_, t_, t_, t_, t_, t_, t_, f_, t_, t_, f_] rfl rfl (take_ofW HT_.out HW_.out (by kernel_rfl)) (fun _ _ _ h => h) (Or.inl ⟨by rfl, ?_⟩) hHeld ?_ ?_
           rotate_left
           ·rintro w' ⟨s0, s1, s2, s3, s4, s5⟩; go_simp
            with_reducible rfl
           rotate_left
           ·simp only [Act.put, List.setIfInBounds_toArray, List.set_cons_zero, List.set_cons_succ, i64_w, i32_w]
            rfl
           refine pure_ (i := 10) (N := some 25) (v := ?_) (a' := ?_) #[t_, t_, t_, t_, t_, t_, t_, t_, t_, t_, t_, t_, t_, f_] rfl rfl (any_of HT_.out (by kernel_rfl)) (fun _ _ _ h => h) (Or.inl ⟨by rfl, ?_⟩) ?_ ?_
           rotate_left
           ·intro w'; go_simp
            with_reducible rfl
           rotate_left
           ·simp only [Act.put, List.setIfInBounds_toArray, List.set_cons_zero, List.set_cons_succ, i64_w, i32_w]
            rfl
           refine pure_ (i := 13) (N := some 28) (v := ?_) (a' := ?_) #[t_, t_, t_, t_, t_, t_, t_, t_, t_, t_, t_, t_, t_, t_] rfl rfl (any_of HT_.out (by kernel_rfl)) (fun _ _ _ h => h) (Or.inl ⟨by rfl, ?_⟩) ?_ ?_
           rotate_left
           ·intro w'; go_simp
            with_reducible rfl
           rotate_left
           ·simp only [Act.put, List.setIfInBounds_toArray, List.set_cons_zero, List.set_cons_succ, i64_w, i32_w]
            rfl
           refine done_ (done_of HT_.out (by kernel_rfl)) ?_; (try go_wp2); have n0_ := Aside0.mk (Kd.R_drew HO_6.out); have n1_ := Aside0.mk (below_drew1 HB.out); clear HO_6; clear HB; have HO_6 := n0_; have HB := n1_; clear n0_ n1_; have p592 : 0 ≤ (x7_1 : Int) := of_decide_eq_true (by assumption); have q592 : x7_1 < (l1.length : Int) := of_decide_eq_true (by assumption); obtain ⟨ad592, A592_2, c592_2, e592, hx592_0, hx592_1, hx592_2, hl592_2, hi592_2⟩ := at_T39 HR1.out x7_1 p592 q592; have hw592_2 := hx592_2; have hw592_1 := hx592_1; have hw592_0 := hx592_0; obtain rfl : ad590 = ad592 := (by injection e592); replace hx592_0 := (HB.out.cell (World.block_lt_of_cell? w _ hx592_0)).trans hx592_0; replace hx592_1 := (HB.out.cell (World.block_lt_of_cell? w _ hx592_1)).trans hx592_1; replace hx592_2 := (HB.out.cell (World.block_lt_of_cell? w _ hx592_2)).trans hx592_2; have HR592_2 := Aside0.mk hi592_2; have HC592_2 := Aside0.mk hl592_2; clear hi592_2 hl592_2; replace p592 := eq_true p592; replace q592 := eq_true q592; have p593 : 0 ≤ (x7_1 : Int) := of_decide_eq_true (by assumption); have q593 : x7_1 < (l1.length : Int) := of_decide_eq_true (by assumption); obtain ⟨ad593, A593_2, c593_2, e593, hx593_0, hx593_1, hx593_2, hl593_2, hi593_2⟩ := at_T39 HR1.out x7_1 p593 q593; have hw593_2 := hx593_2; have hw593_1 := hx593_1; have hw593_0 := hx593_0; obtain rfl : ad590 = ad593 := (by injection e593); replace hx593_0 := (HB.out.cell (World.block_lt_of_cell? w _ hx593_0)).trans hx593_0; replace hx593_1 := (HB.out.cell (World.block_lt_of_cell? w _ hx593_1)).trans hx593_1; replace hx593_2 := (HB.out.cell (World.block_lt_of_cell? w _ hx593_2)).trans hx593_2; have HR593_2 := Aside0.mk hi593_2; have HC593_2 := Aside0.mk hl593_2; clear hi593_2 hl593_2; replace p593 := eq_true p593; replace q593 := eq_true q593; have ea_ := Option.some.inj (hx592_2.symm.trans hx593_2); (injection ea_ with ea_ en_ ec_); subst ea_; subst ec_; clear en_; have p594 : 0 ≤ (x7_1 : Int) := of_decide_eq_true (by assumption); have q594 : x7_1 < (l1.length : Int) := of_decide_eq_true (by assumption); obtain ⟨ad594, A594_2, c594_2, e594, hx594_0, hx594_1, hx594_2, hl594_2, hi594_2⟩ := at_T39 HR1.out x7_1 p594 q594; have hw594_2 := hx594_2; have hw594_1 := hx594_1; have hw594_0 := hx594_0; obtain rfl : ad590 = ad594 := (by injection e594); replace hx594_0 := (HB.out.cell (World.block_lt_of_cell? w _ hx594_0)).trans hx594_0; replace hx594_1 := (HB.out.cell (World.block_lt_of_cell? w _ hx594_1)).trans hx594_1; replace hx594_2 := (HB.out.cell (World.block_lt_of_cell? w _ hx594_2)).trans hx594_2; have HR594_2 := Aside0.mk hi594_2; have HC594_2 := Aside0.mk hl594_2; clear hi594_2 hl594_2; replace p594 := eq_true p594; replace q594 := eq_true q594; have ea_ := Option.some.inj (hx592_2.symm.trans hx594_2); (injection ea_ with ea_ en_ ec_); subst ea_; subst ec_; clear en_; obtain ⟨i016, hi016, _, hsz16, _⟩ := info_parts info9; obtain ⟨A16, hcut16, hA16, hC16⟩ := print_mid_of (P := Try.prog) Value.string (⟨#[]⟩ : ByteArray) 30 9 .i64 .i64 Try.underlying30 hi016 hsz16 A0 c0 l0 ((rd_T39 l1 x7_1).f0) (wrap64 (((rd_T39 l1 x7_1).f0) + ((rd_T39 l1 x7_1).f1))) (of_decide_eq_true (by assumption)) (by first | omega | exact of_decide_eq_true (by assumption)) (of_decide_eq_true (by assumption)) HC0.out
           have HR595 := Aside0.mk (Kd.C_of_reads (h1 := fun _ => rfl) (hA16 _ (Kd.reads_of_C HR0.out))); have HC595 := Aside0.mk hC16; clear hA16 hC16 hi016 hsz16; refine start_ (n := 21) (S := fun w' => w'.cell? (ad590.add ((x7_1).toNat * 3)) = some (.int .i64 ((rd_T39 l1 x7_1).f0)) ∧ w'.cell? ⟨(ad590.add ((x7_1).toNat * 3)).block, (ad590.add ((x7_1).toNat * 3)).off + 1, none⟩ = some (.int .i64 ((rd_T39 l1 x7_1).f1)) ∧ w'.cell? ⟨(ad590.add ((x7_1).toNat * 3)).block, (ad590.add ((x7_1).toNat * 3)).off + 2, none⟩ = some (.slice A592_2 ((rd_T39 l1 x7_1).f2).length c592_2) ∧ w'.cell? (ad590.add ((x7_1).toNat * 3)) = some (.int .i64 ((rd_T39 l1 x7_1).f0)) ∧ w'.cell? ⟨(ad590.add ((x7_1).toNat * 3)).block, (ad590.add ((x7_1).toNat * 3)).off + 1, none⟩ = some (.int .i64 ((rd_T39 l1 x7_1).f1)) ∧ w'.cell? ⟨(ad590.add ((x7_1).toNat * 3)).block, (ad590.add ((x7_1).toNat * 3)).off + 2, none⟩ = some (.slice A592_2 ((rd_T39 l1 x7_1).f2).length c592_2) ∧ w'.cell? (ad590.add ((x7_1).toNat * 3)) = some (.int .i64 ((rd_T39 l1 x7_1).f0)) ∧ w'.cell? ⟨(ad590.add ((x7_1).toNat * 3)).block, (ad590.add ((x7_1).toNat * 3)).off + 1, none⟩ = some (.int .i64 ((rd_T39 l1 x7_1).f1)) ∧ w'.cell? ⟨(ad590.add ((x7_1).toNat * 3)).block, (ad590.add ((x7_1).toNat * 3)).off + 2, none⟩ = some (.slice A592_2 ((rd_T39 l1 x7_1).f2).length c592_2)) (ds := []) #[f_, f_, f_, f_, f_, f_, f_, f_, f_, f_, f_, f_, f_, f_, f_, f_, f_, f_, f_, f_, f_] (by kernel_rfl) rfl rfl ⟨((HB.out.cell (World.block_lt_of_cell? w _ hw592_0)).trans hw592_0), ((HB.out.cell (World.block_lt_of_cell? w _ hw592_1)).trans hw592_1), ((HB.out.cell (World.block_lt_of_cell? w _ hw592_2)).trans hw592_2), ((HB.out.cell (World.block_lt_of_cell? w _ hw593_0)).trans hw593_0), ((HB.out.cell (World.block_lt_of_cell? w _ hw593_1)).trans hw593_1), ((HB.out.cell (World.block_lt_of_cell? w _ hw593_2)).trans hw593_2), ((HB.out.cell (World.block_lt_of_cell? w _ hw594_0)).trans hw594_0), ((HB.out.cell (World.block_lt_of_cell? w _ hw594_1)).trans hw594_1), ((HB.out.cell (World.block_lt_of_cell? w _ hw594_2)).trans hw594_2)⟩ (fun hHeld => ?_); refine with_tabW spec_l13Do.tab7 spec_l13Do.bits7 (fun HT_ HW_ => ?_); generalize w14.drew = w15 at HO_6 HB HR592_2 HR593_2 HR594_2 HR595 hx592_0 hx592_1 hx592_2 hx593_0 hx593_1 hx593_2 hx594_0 hx594_1 hx594_2 hHeld ⊢; refine pure_ (i := 0) (N := some 29) (v := ?_) (a' := ?_) #[t_, f_, f_, f_, f_, f_, f_, f_, f_, f_, f_, f_, f_, f_, f_, f_, f_, f_, f_, f_, f_] rfl rfl (any_of HT_.out (by kernel_rfl)) (fun _ _ _ h => h) (Or.inl ⟨by rfl, ?_⟩) ?_ ?_
           rotate_left
           ·intro w'; go_simp
            with_reducible rfl
           rotate_left
           ·simp only [Act.put, List.setIfInBounds_toArray, List.set_cons_zero, List.set_cons_succ, i64_w, i32_w]
            rfl
           refine pure_ (i := 1) (N := some 30) (v := ?_) (a' := ?_) #[t_, t_, f_, f_, f_, f_, f_, f_, f_, f_, f_, f_, f_, f_, f_, f_, f_, f_, f_, f_, f_] rfl rfl (any_of HT_.out (by kernel_rfl)) (fun _ _ _ h => h) (Or.inl ⟨by rfl, ?_⟩) ?_ ?_
           rotate_left
           ·intro w'; go_simp
            with_reducible rfl
           rotate_left
           ·simp only [Act.put, List.setIfInBounds_toArray, List.set_cons_zero, List.set_cons_succ, i64_w, i32_w]
            rfl
           refine pure_ (i := 2) (N := some 31) (v := ?_) (a' := ?_) #[t_, t_, t_, f_, f_, f_, f_, f_, f_, f_, f_, f_, f_, f_, f_, f_, f_, f_, f_, f_, f_] rfl rfl (any_of HT_.out (by kernel_rfl)) (fun _ _ _ h => h) (Or.inl ⟨by rfl, ?_⟩) ?_ ?_
           rotate_left
           ·intro w'; go_simp
            with_reducible rfl
           rotate_left
           ·simp only [Act.put, List.setIfInBounds_toArray, List.set_cons_zero, List.set_cons_succ, i64_w, i32_w]
            rfl
           refine pure_ (i := 3) (N := some 32) (v := ?_) (a' := ?_) #[t_, t_, t_, t_, f_, f_, f_, f_, f_, f_, f_, f_, f_, f_, f_, f_, f_, f_, f_, f_, f_] rfl rfl (any_of HT_.out (by kernel_rfl)) (fun _ _ _ h => h) (Or.inl ⟨by rfl, ?_⟩) ?_ ?_
           rotate_left
           ·intro w'; go_simp
            with_reducible rfl
           rotate_left
           ·simp only [Act.put, List.setIfInBounds_toArray, List.set_cons_zero, List.set_cons_succ, i64_w, i32_w]
            rfl
           refine pure_ (i := 4) (N := some 33) (v := ?_) (a' := ?_) #[t_, t_, t_, t_, t_, f_, f_, f_, f_, f_, f_, f_, f_, f_, f_, f_, f_, f_, f_, f_, f_] rfl rfl (any_of HT_.out (by kernel_rfl)) (fun _ _ _ h => h) (Or.inl ⟨by rfl, ?_⟩) ?_ ?_
           rotate_left
           ·intro w'; go_simp
            with_reducible rfl
           rotate_left
           ·simp only [Act.put, List.setIfInBounds_toArray, List.set_cons_zero, List.set_cons_succ, i64_w, i32_w]
            rfl
           refine pure_ (i := 5) (N := some 34) (v := ?_) (a' := ?_) #[t_, t_, t_, t_, t_, t_, f_, f_, f_, f_, f_, f_, f_, f_, f_, f_, f_, f_, f_, f_, f_] rfl rfl (any_of HT_.out (by kernel_rfl)) (fun _ _ _ h => h) (Or.inl ⟨by rfl, ?_⟩) ?_ ?_
           rotate_left
           ·intro w'; go_simp
            with_reducible rfl
           rotate_left
           ·simp only [Act.put, List.setIfInBounds_toArray, List.set_cons_zero, List.set_cons_succ, i64_w, i32_w]
            rfl
           refine pure_ (i := 7) (N := some 36) (v := ?_) (a' := ?_) #[t_, t_, t_, t_, t_, t_, f_, t_, f_, f_, f_, f_, f_, f_, f_, f_, f_, f_, f_, f_, f_] rfl rfl (any_of HT_.out (by kernel_rfl)) (fun _ _ _ h => h) (Or.inl ⟨by rfl, ?_⟩) ?_ ?_
           rotate_left
           ·intro w'; go_simp
            with_reducible rfl
           rotate_left
           ·simp only [Act.put, List.setIfInBounds_toArray, List.set_cons_zero, List.set_cons_succ, i64_w, i32_w]
            rfl
           refine pure_ (i := 8) (N := some 37) (v := ?_) (a' := ?_) #[t_, t_, t_, t_, t_, t_, f_, t_, t_, f_, f_, f_, f_, f_, f_, f_, f_, f_, f_, f_, f_] rfl rfl (any_of HT_.out (by kernel_rfl)) (fun _ _ _ h => h) (Or.inl ⟨by rfl, ?_⟩) ?_ ?_
           rotate_left
           ·intro w'; go_simp
            with_reducible rfl
           rotate_left
           ·simp only [Act.put, List.setIfInBounds_toArray, List.set_cons_zero, List.set_cons_succ, i64_w, i32_w]
            rfl
           refine pure_ (i := 9) (N := some 38) (v := ?_) (a' := ?_) #[t_, t_, t_, t_, t_, t_, f_, t_, t_, t_, f_, f_, f_, f_, f_, f_, f_, f_, f_, f_, f_] rfl rfl (any_of HT_.out (by kernel_rfl)) (fun _ _ _ h => h) (Or.inl ⟨by rfl, ?_⟩) ?_ ?_
           rotate_left
           ·intro w'; go_simp
            with_reducible rfl
           rotate_left
           ·simp only [Act.put, List.setIfInBounds_toArray, List.set_cons_zero, List.set_cons_succ, i64_w, i32_w]
            rfl
           refine pure_ (i := 10) (N := some 39) (v := ?_) (a' := ?_) #[t_, t_, t_, t_, t_, t_, f_, t_, t_, t_, t_, f_, f_, f_, f_, f_, f_, f_, f_, f_, f_] rfl rfl (any_of HT_.out (by kernel_rfl)) (fun _ _ _ h => h) (Or.inl ⟨by rfl, ?_⟩) ?_ ?_
           rotate_left
           ·intro w'; go_simp
            with_reducible rfl
           rotate_left
           ·simp only [Act.put, List.setIfInBounds_toArray, List.set_cons_zero, List.set_cons_succ, i64_w, i32_w]
            rfl
           refine pure_ (i := 12) (N := some 41) (v := ?_) (a' := ?_) #[t_, t_, t_, t_, t_, t_, f_, t_, t_, t_, t_, f_, t_, f_, f_, f_, f_, f_, f_, f_, f_] rfl rfl (any_of HT_.out (by kernel_rfl)) (fun _ _ _ h => h) (Or.inl ⟨by rfl, ?_⟩) ?_ ?_
           rotate_left
           ·intro w'; go_simp
            with_reducible rfl
           rotate_left
           ·simp only [Act.put, List.setIfInBounds_toArray, List.set_cons_zero, List.set_cons_succ, i64_w, i32_w]
            rfl
           refine pure_ (i := 13) (N := some 42) (v := ?_) (a' := ?_) #[t_, t_, t_, t_, t_, t_, f_, t_, t_, t_, t_, f_, t_, t_, f_, f_, f_, f_, f_, f_, f_] rfl rfl (any_of HT_.out (by kernel_rfl)) (fun _ _ _ h => h) (Or.inl ⟨by rfl, ?_⟩) ?_ ?_
           rotate_left
           ·intro w'; go_simp
            with_reducible rfl
           rotate_left
           ·simp only [Act.put, List.setIfInBounds_toArray, List.set_cons_zero, List.set_cons_succ, i64_w, i32_w]
            rfl
           refine pure_ (i := 14) (N := some 43) (v := ?_) (a' := ?_) #[t_, t_, t_, t_, t_, t_, f_, t_, t_, t_, t_, f_, t_, t_, t_, f_, f_, f_, f_, f_, f_] rfl rfl (any_of HT_.out (by kernel_rfl)) (fun _ _ _ h => h) (Or.inl ⟨by rfl, ?_⟩) ?_ ?_
           rotate_left
           ·intro w'; go_simp
            with_reducible rfl
           rotate_left
           ·simp only [Act.put, List.setIfInBounds_toArray, List.set_cons_zero, List.set_cons_succ, i64_w, i32_w]
            rfl
           refine pure_ (i := 15) (N := some 44) (v := ?_) (a' := ?_) #[t_, t_, t_, t_, t_, t_, f_, t_, t_, t_, t_, f_, t_, t_, t_, t_, f_, f_, f_, f_, f_] rfl rfl (any_of HT_.out (by kernel_rfl)) (fun _ _ _ h => h) (Or.inl ⟨by rfl, ?_⟩) ?_ ?_
           rotate_left
           ·intro w'; go_simp
            with_reducible rfl
           rotate_left
           ·simp only [Act.put, List.setIfInBounds_toArray, List.set_cons_zero, List.set_cons_succ, i64_w, i32_w]
            rfl
           refine take_ (i := 6) (N := some 35) (v := ?_) (a' := ?_) #[t_, t_, t_, t_, t_, t_, t_, t_, t_, t_, t_, f_, t_, t_, t_, t_, f_, f_, f_, f_, f_] rfl rfl (take_ofW HT_.out HW_.out (by kernel_rfl)) (fun _ _ _ h => h) (Or.inl ⟨by rfl, ?_⟩) hHeld ?_ ?_
           rotate_left
           ·rintro w' ⟨s0, s1, s2, s3, s4, s5, s6, s7, s8⟩; go_simp
            with_reducible rfl
           rotate_left
           ·simp only [Act.put, List.setIfInBounds_toArray, List.set_cons_zero, List.set_cons_succ, i64_w, i32_w]
            rfl
           refine take_ (i := 11) (N := some 40) (v := ?_) (a' := ?_) #[t_, t_, t_, t_, t_, t_, t_, t_, t_, t_, t_, t_, t_, t_, t_, t_, f_, f_, f_, f_, f_] rfl rfl (take_ofW HT_.out HW_.out (by kernel_rfl)) (fun _ _ _ h => h) (Or.inl ⟨by rfl, ?_⟩) hHeld ?_ ?_
           rotate_left
           ·rintro w' ⟨s0, s1, s2, s3, s4, s5, s6, s7, s8⟩; go_simp
            with_reducible rfl
           rotate_left
           ·simp only [Act.put, List.setIfInBounds_toArray, List.set_cons_zero, List.set_cons_succ, i64_w, i32_w]
            rfl
           refine take_ (i := 16) (N := some 45) (v := ?_) (a' := ?_) #[t_, t_, t_, t_, t_, t_, t_, t_, t_, t_, t_, t_, t_, t_, t_, t_, t_, f_, f_, f_, f_] rfl rfl (take_ofW HT_.out HW_.out (by kernel_rfl)) (fun _ _ _ h => h) (Or.inl ⟨by rfl, ?_⟩) hHeld ?_ ?_
           rotate_left
           ·rintro w' ⟨s0, s1, s2, s3, s4, s5, s6, s7, s8⟩; go_simp
            with_reducible rfl
           rotate_left
           ·simp only [Act.put, List.setIfInBounds_toArray, List.set_cons_zero, List.set_cons_succ, i64_w, i32_w]
            rfl
           refine pure_ (i := 17) (N := some 46) (v := ?_) (a' := ?_) #[t_, t_, t_, t_, t_, t_, t_, t_, t_, t_, t_, t_, t_, t_, t_, t_, t_, t_, f_, f_, f_] rfl rfl (any_of HT_.out (by kernel_rfl)) (fun _ _ _ h => h) (Or.inl ⟨by rfl, ?_⟩) ?_ ?_
           rotate_left
           ·intro w'; go_simp
            with_reducible rfl
           rotate_left
           ·simp only [Act.put, List.setIfInBounds_toArray, List.set_cons_zero, List.set_cons_succ, i64_w, i32_w]
            rfl
           refine pure_ (i := 18) (N := some 47) (v := ?_) (a' := ?_) #[t_, t_, t_, t_, t_, t_, t_, t_, t_, t_, t_, t_, t_, t_, t_, t_, t_, t_, t_, f_, f_] rfl rfl (any_of HT_.out (by kernel_rfl)) (fun _ _ _ h => h) (Or.inl ⟨by rfl, ?_⟩) ?_ ?_
           rotate_left
           ·intro w'; go_simp
            with_reducible rfl
           rotate_left
           ·simp only [Act.put, List.setIfInBounds_toArray, List.set_cons_zero, List.set_cons_succ, i64_w, i32_w]
            rfl
           refine one_ (i := 19) (N := some 48) #[t_, t_, t_, t_, t_, t_, t_, t_, t_, t_, t_, t_, t_, t_, t_, t_, t_, t_, t_, t_, f_] rfl rfl (one_of HT_.out (by kernel_rfl)) (by decide) (fun K hK => ?_); refine Kd.R_append_rows_step Kd.string (w0 := w) w.heap.size (by rfl) (.tmp 29) (.tmp 47) 30 9 (.string ⟨#[]⟩) 16 rfl Try.underlying30 info9 rfl (by decide) (by omega) u6 x6_1 ((l0.take ((wrap64 (((rd_T39 l1 x7_1).f0) + ((rd_T39 l1 x7_1).f1))) : Int).toNat).drop (((rd_T39 l1 x7_1).f0) : Int).toNat) _ _ _ (fun _ => True) (fun _ => False) rfl rfl ?aO ?aR (fun _ _ h => h) (fun _ h => h.elim) ?aF ?aB ?aS ?aL ?_
           (case aR => first | (rw [← show ((l0.take ((wrap64 (((rd_T39 l1 x7_1).f0) + ((rd_T39 l1 x7_1).f1))) : Int).toNat).drop (((rd_T39 l1 x7_1).f0) : Int).toNat).length = ((wrap64 (((rd_T39 l1 x7_1).f0) + ((rd_T39 l1 x7_1).f1))).toNat - ((rd_T39 l1 x7_1).f0).toNat) from (by rw [List.length_drop, List.length_take]; have h_ : ((wrap64 (((rd_T39 l1 x7_1).f0) + ((rd_T39 l1 x7_1).f1))) : Int) ≤ (l0.length : Int) := of_decide_eq_true (by assumption); omega)]; repeat (first | exact (Kd.C_below HR595.out HB.out) | (with_reducible refine Kd.C_alloc ?_ _) | (with_reducible refine Kd.C_drewN ?_ _) | (with_reducible refine Kd.C_drew ?_))) | (repeat (first | exact (Kd.C_below HR595.out HB.out) | (with_reducible refine Kd.C_alloc ?_ _) | (with_reducible refine Kd.C_drewN ?_ _) | (with_reducible refine Kd.C_drew ?_))))
           (case aB => exact (by repeat (first | (with_reducible first | exact HB.out | apply below_alloc | apply pw_below_drewN | apply below_drew1) | exact HB.out)))
           (case aF => exact (fun _ _ => trivial))
           (case aO => exact (by (with_reducible repeat (first | apply Kd.R_alloc | apply Kd.R_drewN | apply Kd.R_drew)); exact HO_6.out))
           (case aS => exact (below_size (by repeat (first | (with_reducible first | exact HB.out | apply below_alloc | apply pw_below_drewN | apply below_drew1) | exact HB.out))))
           (case aL => have := LMc12.out; have hlx_ := (show ((l0.take ((wrap64 (((rd_T39 l1 x7_1).f0) + ((rd_T39 l1 x7_1).f1))) : Int).toNat).drop (((rd_T39 l1 x7_1).f0) : Int).toNat).length = ((wrap64 (((rd_T39 l1 x7_1).f0) + ((rd_T39 l1 x7_1).f1))).toNat - ((rd_T39 l1 x7_1).f0).toNat) from (by rw [List.length_drop, List.length_take]; have h_ : ((wrap64 (((rd_T39 l1 x7_1).f0) + ((rd_T39 l1 x7_1).f1))) : Int) ≤ (l0.length : Int) := of_decide_eq_true (by assumption); omega)); omega)
           intro v597 w17 ho hb hg hat; rw [← Ny596.out] at ho; have n0_ := Aside0.mk (hb); have n1_ := Aside0.mk (ho); clear HB; clear HO_6; have HB := n0_; have HO598 := n1_; clear n0_ n1_; clear ho hb hg hat; refine hK.out _ _ ⟨((HB.out.cell (World.block_lt_of_cell? w _ hw592_0)).trans hw592_0), ((HB.out.cell (World.block_lt_of_cell? w _ hw592_1)).trans hw592_1), ((HB.out.cell (World.block_lt_of_cell? w _ hw592_2)).trans hw592_2), ((HB.out.cell (World.block_lt_of_cell? w _ hw593_0)).trans hw593_0), ((HB.out.cell (World.block_lt_of_cell? w _ hw593_1)).trans hw593_1), ((HB.out.cell (World.block_lt_of_cell? w _ hw593_2)).trans hw593_2), ((HB.out.cell (World.block_lt_of_cell? w _ hw594_0)).trans hw594_0), ((HB.out.cell (World.block_lt_of_cell? w _ hw594_1)).trans hw594_1), ((HB.out.cell (World.block_lt_of_cell? w _ hw594_2)).trans hw594_2)⟩ (fun hHeld => ?_); clear hK K; refine norm_ (a' := ?_) ?_ ?_
           rotate_left
           ·show Act.put _ (some 48) _ = _
            simp only [Act.put, List.setIfInBounds_toArray, List.set_cons_zero, List.set_cons_succ, i64_w, i32_w]
            rfl
           refine pure_ (i := 20) (N := some 6) (v := ?_) (a' := ?_) #[t_, t_, t_, t_, t_, t_, t_, t_, t_, t_, t_, t_, t_, t_, t_, t_, t_, t_, t_, t_, t_] rfl rfl (any_of HT_.out (by kernel_rfl)) (fun _ _ _ h => h) (Or.inl ⟨by rfl, ?_⟩) ?_ ?_
           rotate_left
           ·intro w'; go_simp
            with_reducible rfl
           rotate_left
           ·simp only [Act.put, List.setIfInBounds_toArray, List.set_cons_zero, List.set_cons_succ, i64_w, i32_w]
            rfl
           refine done_ (done_of HT_.out (by kernel_rfl)) ?_; have p599 : 0 ≤ (x7_1 : Int) := of_decide_eq_true (by assumption); have q599 : x7_1 < (l1.length : Int) := of_decide_eq_true (by assumption); obtain ⟨ad599, A599_2, c599_2, e599, hx599_0, hx599_1, hx599_2, hl599_2, hi599_2⟩ := at_T39 HR1.out x7_1 p599 q599; obtain rfl : ad590 = ad599 := (by injection e599)
           (try (have ea_ := Option.some.inj (hw591_0.symm.trans hx599_0); injection ea_ with ea_ en_ ec_; subst ea_; subst ec_; clear en_))
           (try (have ea_ := Option.some.inj (hw592_0.symm.trans hx599_0); injection ea_ with ea_ en_ ec_; subst ea_; subst ec_; clear en_))
           (try (have ea_ := Option.some.inj (hw593_0.symm.trans hx599_0); injection ea_ with ea_ en_ ec_; subst ea_; subst ec_; clear en_))
           (try (have ea_ := Option.some.inj (hw594_0.symm.trans hx599_0); injection ea_ with ea_ en_ ec_; subst ea_; subst ec_; clear en_))
           replace hx599_0 := (HB.out.cell (World.block_lt_of_cell? w _ hx599_0)).trans hx599_0
           (try (have ea_ := Option.some.inj (hw591_1.symm.trans hx599_1); injection ea_ with ea_ en_ ec_; subst ea_; subst ec_; clear en_))
           (try (have ea_ := Option.some.inj (hw592_1.symm.trans hx599_1); injection ea_ with ea_ en_ ec_; subst ea_; subst ec_; clear en_))
           (try (have ea_ := Option.some.inj (hw593_1.symm.trans hx599_1); injection ea_ with ea_ en_ ec_; subst ea_; subst ec_; clear en_))
           (try (have ea_ := Option.some.inj (hw594_1.symm.trans hx599_1); injection ea_ with ea_ en_ ec_; subst ea_; subst ec_; clear en_))
           replace hx599_1 := (HB.out.cell (World.block_lt_of_cell? w _ hx599_1)).trans hx599_1
           (try (have ea_ := Option.some.inj (hw591_2.symm.trans hx599_2); injection ea_ with ea_ en_ ec_; subst ea_; subst ec_; clear en_))
           (try (have ea_ := Option.some.inj (hw592_2.symm.trans hx599_2); injection ea_ with ea_ en_ ec_; subst ea_; subst ec_; clear en_))
           (try (have ea_ := Option.some.inj (hw593_2.symm.trans hx599_2); injection ea_ with ea_ en_ ec_; subst ea_; subst ec_; clear en_))
           (try (have ea_ := Option.some.inj (hw594_2.symm.trans hx599_2); injection ea_ with ea_ en_ ec_; subst ea_; subst ec_; clear en_))
           replace hx599_2 := (HB.out.cell (World.block_lt_of_cell? w _ hx599_2)).trans hx599_2; have HR599_2 := Aside0.mk hi599_2; have HC599_2 := Aside0.mk hl599_2; clear hi599_2 hl599_2; replace p599 := eq_true p599; replace q599 := eq_true q599; (try go_wp2_with (first | ((with_reducible refine gate_builtin (b := .append) (xs := #[.tmp 49, .tmp 54]) rfl ?_); at_builtin; refine Kd.R_append_rows Kd.string (w0 := w) w.heap.size rfl (.tmp 49) (.tmp 54) 30 9 (.string ⟨#[]⟩) 16 rfl Try.underlying30 info9 rfl (by decide) (by omega) v597 y596 ((rd_T39 l1 x7_1).f2) _ _ _ (fun _ => True) (fun _ => False) rfl rfl ?aO ?aR (fun _ _ h => h) (fun _ h => h.elim) ?aF ?aB ?aS ?aL ?_; (case aR => repeat (first | exact (Kd.C_below HR599_2.out HB.out) | (with_reducible refine Kd.C_alloc ?_ _) | (with_reducible refine Kd.C_drewN ?_ _) | (with_reducible refine Kd.C_drew ?_))); (case aB => exact (by repeat (first | (with_reducible first | exact HB.out | apply below_alloc | apply pw_below_drewN | apply below_drew1) | exact HB.out))); (case aF => exact (fun _ _ => trivial)); (case aO => exact (by (with_reducible repeat (first | apply Kd.R_alloc | apply Kd.R_drewN | apply Kd.R_drew)); exact HO598.out)); (case aS => exact (below_size (by repeat (first | (with_reducible first | exact HB.out | apply below_alloc | apply pw_below_drewN | apply below_drew1) | exact HB.out)))); (case aL => have := LMc13.out; omega); intro v601 w18 ho hb hg hat; rw [← Ny600.out] at ho; have n0_ := Aside0.mk (hb); have n1_ := Aside0.mk (ho); clear HB; clear HO598; have HB := n0_; have HO602 := n1_; clear n0_ n1_; clear ho hb hg hat))); go_roundg k1
           case measure => have := HK1.out; omega
           case rel => exact ⟨(y600), (wrap64 (x7_1 + 1)), (by first | rfl | (simp; done) | (simp [*]; done)), H', ⟨by have := HK1.out; omega⟩, ⟨by (with_reducible repeat (first | apply Kd.R_alloc | apply Kd.R_drewN | apply Kd.R_drew)); exact HO602.out⟩, ⟨by repeat (first | (with_reducible first | exact HB.out | apply below_alloc | apply pw_below_drewN | apply below_drew1) | exact HB.out)⟩⟩
          ·rw [if_neg c13] at H; exact absurd H (by simp)
         ·rw [if_neg c12] at H; exact absurd H (by simp)
        ·rw [if_neg c11] at H; exact absurd H (by simp)
       ·rw [if_neg c10] at H; exact absurd H (by simp)
      ·rw [if_neg c9] at H; exact absurd H (by simp)
    ·rw [if_neg c6] at H; exact absurd H (by simp)
   ·rw [if_neg c5] at H; have c5b0 : decide (x7_1 < (l1.length : Int)) = false := decide_eq_false c5; clear c5; replace H := Option.bind_eq_some_iff.mp H; obtain ⟨t603, A190, H⟩ := H; replace H : (if t603 = true then (some (x6_1, true)) else (some (([] : List ByteArray), false))) = some (r1, r2) := H; have A19 := Aside0.mk A190; clear A190; by_cases c20 : t603 = true
    ·subst c20; (have H1 : (some (x6_1, true)) = some (r1, r2) := by rw [if_pos rfl] at H; exact H); clear H; have H := H1; clear H1; simp only [Option.some.injEq, Prod.mk.injEq] at H; obtain ⟨rfl, rfl⟩ := H; obtain ⟨Ao21, co21, eo21⟩ := Kd.R_slice HO_6.out; subst eo21; go_wp2_with (first | ((with_reducible refine gate_callee (f := 71) rfl ?_); refine goesL_ (some 57) rfl rfl Try.func71 (by kernel_rfl) rfl #[.slice Ao21 x6_1.length co21] rfl (by (try simp only [List.map_toArray, List.map_cons, List.map_nil]); first | done | rfl | (simp only [List.length_drop, List.length_take]; rfl)) ?_; (with_reducible refine (spec_l1Ok.calls k1 _ _ x6_1 true _ ?side1 ?side2 A19.out).mono ?_); (case side1 => repeat (first | exact (Kd.R_reads' HO_6.out).2.2 | (with_reducible refine Kd.C_alloc ?_ _) | (with_reducible refine Kd.C_drewN ?_ _) | (with_reducible refine Kd.C_drew ?_))); (case side2 => exact (Kd.R_reads' HO_6.out).2.1); rintro e w' ⟨rfl, ⟨nd, rfl⟩⟩; refine ⟨_, rfl, ?_⟩)); go_ret2; exact ⟨_, by first | rfl | (simp <;> rfl) | (simp [*] <;> rfl), by (with_reducible repeat (first | apply Kd.R_alloc | apply Kd.R_drewN | apply Kd.R_drew)); exact HO_6.out, by repeat (first | (with_reducible first | exact HB.out | apply below_alloc | apply pw_below_drewN | apply below_drew1) | exact HB.out)⟩
    ·replace c20 := Bool.eq_false_iff.mpr c20; subst c20; (have H1 : (some (([] : List ByteArray), false)) = some (r1, r2) := by rw [if_neg (show ¬ (false = true) by decide)] at H; exact H); clear H; have H := H1; clear H1; simp only [Option.some.injEq, Prod.mk.injEq] at H; obtain ⟨rfl, rfl⟩ := H; obtain ⟨Ao22, co22, eo22⟩ := Kd.R_slice HO_6.out; subst eo22; go_wp2_with (first | ((with_reducible refine gate_callee (f := 71) rfl ?_); refine goesL_ (some 57) rfl rfl Try.func71 (by kernel_rfl) rfl #[.slice Ao22 x6_1.length co22] rfl (by (try simp only [List.map_toArray, List.map_cons, List.map_nil]); first | done | rfl | (simp only [List.length_drop, List.length_take]; rfl)) ?_; (with_reducible refine (spec_l1Ok.calls k1 _ _ x6_1 false _ ?side1 ?side2 A19.out).mono ?_); (case side1 => repeat (first | exact (Kd.R_reads' HO_6.out).2.2 | (with_reducible refine Kd.C_alloc ?_ _) | (with_reducible refine Kd.C_drewN ?_ _) | (with_reducible refine Kd.C_drew ?_))); (case side2 => exact (Kd.R_reads' HO_6.out).2.1); rintro e w' ⟨rfl, ⟨nd, rfl⟩⟩; refine ⟨_, rfl, ?_⟩)); go_ret2; exact ⟨_, by first | rfl | (simp <;> rfl) | (simp [*] <;> rfl), by first | exact Kd.R_nil _ _ _ _ _ | exact Kd.N_nil _ _ _ _ _ | exact Kd.V_nil _ _ _ _ _ | exact Kd.Q_nil _ _ _ _ _ | exact Kd.S_nil _ _ _ _ _, by repeat (first | (with_reducible first | exact HB.out | apply below_alloc | apply pw_below_drewN | apply below_drew1) | exact HB.out)⟩
end Go.Proofs.Ytfnhjaiioojbkaa.Q
end
section
namespace Go.Proofs.Ytfnhjaiioojbkaa.Q
open Go.RowKit Go.Proofs.YtfnhjaiioojbkaaW.PrintWords Go.Proofs.YtfnhjaiioojbkaaW.PrintLast Go.Proofs.YtfnhjaiioojbkaaW.PrintMore
attribute [local go_sem] max2_int min2_int max_two min_two max_three min_three max_four min_four   -- for this text's walks alone
set_option linter.unusedVariables false
set_option linter.unusedSimpArgs false
def spec_DeltaDo.f (k : Nat) (l0 : List ByteArray) (l1 : List (S39)) : Option (List ByteArray × Bool) := (spec_l1Ok.f k l0).bind fun t604 => (if t604 = true then ((spec_l13Ok.f k l1).bind fun t605 => (if t605 = true then ((spec_l13Do.f k l0 l1).bind fun bt606 => (some (bt606.1, bt606.2))) else (some (([] : List ByteArray), false)))) else (some (([] : List ByteArray), false)))
theorem spec_DeltaDo.mono : ∀ a0 a1 k, LeO (spec_DeltaDo.f k a0 a1) (spec_DeltaDo.f (k + 1) a0 a1) := by
 intro a0 a1 k
 unfold spec_DeltaDo.f
 repeat' first
  | (with_reducible exact spec_l13Do.mono _ _ _)
  | (with_reducible exact spec_l13Ok.mono _ _)
  | (with_reducible exact spec_l1Ok.mono _ _)
  | (with_reducible exact LeO.refl _)
  | (with_reducible exact LeO.none _)
  | (with_reducible refine LeO.ite ?_ ?_)
  | (with_reducible refine LeO.bind ?_ (fun _ => ?_))
  | exact spec_l13Do.mono _ _ _
  | exact spec_l13Ok.mono _ _
  | exact spec_l1Ok.mono _ _
  | exact LeO.none _
  | refine LeO.ite ?_ ?_
  | refine LeO.bind ?_ (fun _ => ?_)
set_option maxHeartbeats 8000000 in
set_option maxRecDepth 100000 in
theorem spec_DeltaDo.calls (k : Nat) (A0 : Option Addr) (c0 : Nat) (l0 : List ByteArray) (A1 : Option Addr) (c1 : Nat) (l1 : List (S39)) (r1 : List ByteArray) (r2 : Bool) (w : World) (hr0 : Kd.C Kd.string w A0 l0.length l0) (hc0 : l0.length ≤ c0) (hr1 : Kd.C k39 w A1 l1.length l1) (hc1 : l1.length ≤ c1) (h : spec_DeltaDo.f k l0 l1 = some (r1, r2)) :
 Calls Try.prog 35 #[.slice A0 l0.length c0, .slice A1 l1.length c1] w fun e w' => ∃ v0_ : Value, e = .returned (.tuple #[v0_, .bool r2]) ∧ Kd.R Kd.string 9 w' w.heap.size (fun _ => True) v0_ r1 ∧ Below w.heap.size w w' := by
 have HR0 := Aside0.mk hr0; have HC0 := Aside0.mk hc0; clear hr0 hc0; have HR1 := Aside0.mk hr1; have HC1 := Aside0.mk hc1; clear hr1 hc1; have HB := Aside0.mk (Below.refl w.heap.size w); have H : ((spec_l1Ok.f k l0).bind fun t604 => (if t604 = true then ((spec_l13Ok.f k l1).bind fun t605 => (if t605 = true then ((spec_l13Do.f k l0 l1).bind fun bt606 => (some (bt606.1, bt606.2))) else (some (([] : List ByteArray), false)))) else (some (([] : List ByteArray), false)))) = some (r1, r2) := h; clear h; replace H := Option.bind_eq_some_iff.mp H; obtain ⟨t604, A30, H⟩ := H; replace H : (if t604 = true then ((spec_l13Ok.f k l1).bind fun t605 => (if t605 = true then ((spec_l13Do.f k l0 l1).bind fun bt606 => (some (bt606.1, bt606.2))) else (some (([] : List ByteArray), false)))) else (some (([] : List ByteArray), false))) = some (r1, r2) := H; have A3 := Aside0.mk A30; clear A30; by_cases c4 : t604 = true
 ·subst c4; (have H1 : ((spec_l13Ok.f k l1).bind fun t605 => (if t605 = true then ((spec_l13Do.f k l0 l1).bind fun bt606 => (some (bt606.1, bt606.2))) else (some (([] : List ByteArray), false)))) = some (r1, r2) := by rw [if_pos rfl] at H; exact H); clear H; have H := H1; clear H1; replace H := Option.bind_eq_some_iff.mp H; obtain ⟨t605, A50, H⟩ := H; replace H : (if t605 = true then ((spec_l13Do.f k l0 l1).bind fun bt606 => (some (bt606.1, bt606.2))) else (some (([] : List ByteArray), false))) = some (r1, r2) := H; have A5 := Aside0.mk A50; clear A50; by_cases c6 : t605 = true
  ·subst c6; (have H1 : ((spec_l13Do.f k l0 l1).bind fun bt606 => (some (bt606.1, bt606.2))) = some (r1, r2) := by rw [if_pos rfl] at H; exact H); clear H; have H := H1; clear H1; replace H := Option.bind_eq_some_iff.mp H; obtain ⟨⟨t606, t607⟩, A70, H⟩ := H; replace H : (some (t606, t607)) = some (r1, r2) := H; have A7 := Aside0.mk A70; clear A70; simp only [Option.some.injEq, Prod.mk.injEq] at H; obtain ⟨rfl, rfl⟩ := H; go_enter Try.func35, Try.ntmps35; go_wp2_with (first | ((with_reducible refine gate_callee (f := 71) rfl ?_); refine goesL_ (some 7) rfl rfl Try.func71 (by kernel_rfl) rfl #[.slice A0 l0.length c0] rfl (by (try simp only [List.map_toArray, List.map_cons, List.map_nil]); first | done | rfl | (simp only [List.length_drop, List.length_take]; rfl)) ?_; (with_reducible refine (spec_l1Ok.calls k _ _ l0 true _ ?side1 ?side2 A3.out).mono ?_); (case side1 => repeat (first | exact HR0.out | (with_reducible refine Kd.C_alloc ?_ _) | (with_reducible refine Kd.C_drewN ?_ _) | (with_reducible refine Kd.C_drew ?_))); (case side2 => exact HC0.out); rintro e w' ⟨rfl, ⟨nd, rfl⟩⟩; refine ⟨_, rfl, ?_⟩) | (go_at_call 61; (with_reducible refine (spec_l13Ok.calls k _ _ l1 true _ ?side1 ?side2 A5.out).mono ?_); (case side1 => repeat (first | exact HR1.out | (with_reducible refine Kd.C_alloc ?_ _) | (with_reducible refine Kd.C_drewN ?_ _) | (with_reducible refine Kd.C_drew ?_))); (case side2 => exact HC1.out); rintro e w8 ⟨rfl, hb⟩; have n0_ := Aside0.mk (below_step (by repeat (first | (with_reducible first | exact HB.out | apply below_alloc | apply pw_below_drewN | apply below_drew1) | exact HB.out)) hb); clear HB; have HB := n0_; clear n0_; (try clear hb); (try clear hb2); (try clear hk); (try clear hi)) | ((with_reducible refine gate_callee (f := 83) rfl ?_); refine goesL_ (some 16) rfl rfl Try.func83 (by kernel_rfl) rfl #[.slice A0 l0.length c0, .slice A1 l1.length c1] rfl (by (try simp only [List.map_toArray, List.map_cons, List.map_nil]); first | done | rfl | (simp only [List.length_drop, List.length_take]; rfl)) ?_; (with_reducible refine (spec_l13Do.calls k _ _ l0 _ _ l1 t606 t607 _ ?side1 ?side2 ?side3 ?side4 A7.out).mono ?_); (case side1 => repeat (first | exact (Kd.C_below HR0.out HB.out) | (with_reducible refine Kd.C_alloc ?_ _) | (with_reducible refine Kd.C_drewN ?_ _) | (with_reducible refine Kd.C_drew ?_))); (case side2 => exact HC0.out); (case side3 => repeat (first | exact (Kd.C_below HR1.out HB.out) | (with_reducible refine Kd.C_alloc ?_ _) | (with_reducible refine Kd.C_drewN ?_ _) | (with_reducible refine Kd.C_drew ?_))); (case side4 => exact HC1.out); rintro e w9 ⟨v608, rfl, ho0, hb⟩; refine ⟨_, rfl, ?_⟩; have n0_ := Aside0.mk (Kd.R_lower ho0 (below_size (by repeat (first | (with_reducible first | exact HB.out | apply below_alloc | apply pw_below_drewN | apply below_drew1) | exact HB.out)))); have n1_ := Aside0.mk (below_step (by repeat (first | (with_reducible first | exact HB.out | apply below_alloc | apply pw_below_drewN | apply below_drew1) | exact HB.out)) hb); clear HB; have HO609 := n0_; have HB := n1_; clear n0_ n1_; (try clear hb); (try clear hb2); (try clear hk); (try clear hi); (try clear ho0)))
   go_ret2; exact ⟨_, by first | rfl | (simp <;> rfl) | (simp [*] <;> rfl), by (with_reducible repeat (first | apply Kd.R_alloc | apply Kd.R_drewN | apply Kd.R_drew)); exact HO609.out, by repeat (first | (with_reducible first | exact HB.out | apply below_alloc | apply pw_below_drewN | apply below_drew1) | exact HB.out)⟩
  ·replace c6 := Bool.eq_false_iff.mpr c6; subst c6; (have H1 : (some (([] : List ByteArray), false)) = some (r1, r2) := by rw [if_neg (show ¬ (false = true) by decide)] at H; exact H); clear H; have H := H1; clear H1; simp only [Option.some.injEq, Prod.mk.injEq] at H; obtain ⟨rfl, rfl⟩ := H; go_enter Try.func35, Try.ntmps35; go_wp2_with (first | ((with_reducible refine gate_callee (f := 71) rfl ?_); refine goesL_ (some 7) rfl rfl Try.func71 (by kernel_rfl) rfl #[.slice A0 l0.length c0] rfl (by (try simp only [List.map_toArray, List.map_cons, List.map_nil]); first | done | rfl | (simp only [List.length_drop, List.length_take]; rfl)) ?_; (with_reducible refine (spec_l1Ok.calls k _ _ l0 true _ ?side1 ?side2 A3.out).mono ?_); (case side1 => repeat (first | exact HR0.out | (with_reducible refine Kd.C_alloc ?_ _) | (with_reducible refine Kd.C_drewN ?_ _) | (with_reducible refine Kd.C_drew ?_))); (case side2 => exact HC0.out); rintro e w' ⟨rfl, ⟨nd, rfl⟩⟩; refine ⟨_, rfl, ?_⟩) | (go_at_call 61; (with_reducible refine (spec_l13Ok.calls k _ _ l1 false _ ?side1 ?side2 A5.out).mono ?_); (case side1 => repeat (first | exact HR1.out | (with_reducible refine Kd.C_alloc ?_ _) | (with_reducible refine Kd.C_drewN ?_ _) | (with_reducible refine Kd.C_drew ?_))); (case side2 => exact HC1.out); rintro e w10 ⟨rfl, hb⟩; have n0_ := Aside0.mk (below_step (by repeat (first | (with_reducible first | exact HB.out | apply below_alloc | apply pw_below_drewN | apply below_drew1) | exact HB.out)) hb); clear HB; have HB := n0_; clear n0_; (try clear hb); (try clear hb2); (try clear hk); (try clear hi))); go_ret2; exact ⟨_, by first | rfl | (simp <;> rfl) | (simp [*] <;> rfl), by first | exact Kd.R_nil _ _ _ _ _ | exact Kd.N_nil _ _ _ _ _ | exact Kd.V_nil _ _ _ _ _ | exact Kd.Q_nil _ _ _ _ _ | exact Kd.S_nil _ _ _ _ _, by repeat (first | (with_reducible first | exact HB.out | apply below_alloc | apply pw_below_drewN | apply below_drew1) | exact HB.out)⟩
 ·replace c4 := Bool.eq_false_iff.mpr c4; subst c4; (have H1 : (some (([] : List ByteArray), false)) = some (r1, r2) := by rw [if_neg (show ¬ (false = true) by decide)] at H; exact H); clear H; have H := H1; clear H1; simp only [Option.some.injEq, Prod.mk.injEq] at H; obtain ⟨rfl, rfl⟩ := H; go_enter Try.func35, Try.ntmps35; go_wp2_with (first | ((with_reducible refine gate_callee (f := 71) rfl ?_); refine goesL_ (some 7) rfl rfl Try.func71 (by kernel_rfl) rfl #[.slice A0 l0.length c0] rfl (by (try simp only [List.map_toArray, List.map_cons, List.map_nil]); first | done | rfl | (simp only [List.length_drop, List.length_take]; rfl)) ?_; (with_reducible refine (spec_l1Ok.calls k _ _ l0 false _ ?side1 ?side2 A3.out).mono ?_); (case side1 => repeat (first | exact HR0.out | (with_reducible refine Kd.C_alloc ?_ _) | (with_reducible refine Kd.C_drewN ?_ _) | (with_reducible refine Kd.C_drew ?_))); (case side2 => exact HC0.out); rintro e w' ⟨rfl, ⟨nd, rfl⟩⟩; refine ⟨_, rfl, ?_⟩)); go_ret2; exact ⟨_, by first | rfl | (simp <;> rfl) | (simp [*] <;> rfl), by first | exact Kd.R_nil _ _ _ _ _ | exact Kd.N_nil _ _ _ _ _ | exact Kd.V_nil _ _ _ _ _ | exact Kd.Q_nil _ _ _ _ _ | exact Kd.S_nil _ _ _ _ _, by repeat (first | (with_reducible first | exact HB.out | apply below_alloc | apply pw_below_drewN | apply below_drew1) | exact HB.out)⟩
end Go.Proofs.Ytfnhjaiioojbkaa.Q
end
section
namespace Go.Proofs.Ytfnhjaiioojbkaa.Q
open Go.RowKit Go.Proofs.YtfnhjaiioojbkaaW.PrintWords Go.Proofs.YtfnhjaiioojbkaaW.PrintLast Go.Proofs.YtfnhjaiioojbkaaW.PrintMore
attribute [local go_sem] max2_int min2_int max_two min_two max_three min_three max_four min_four   -- for this text's walks alone
set_option linter.unusedVariables false
set_option linter.unusedSimpArgs false
def impl_DeltaOf.f (k : Nat) (l0 : List ByteArray) (l1 : List ByteArray) : Option ((List (S39))) := (impl_TextOk.f k l0).bind fun t379 => (if t379 = true then ((impl_TextOk.f k l1).bind fun t380 => (if t380 = true then ((impl_deltaOf.f k l0 l1).bind fun t381 => (some t381)) else (some ([] : List (S39))))) else (some ([] : List (S39))))
theorem impl_DeltaOf.mono : ∀ a0 a1 k, LeO (impl_DeltaOf.f k a0 a1) (impl_DeltaOf.f (k + 1) a0 a1) := by
 intro a0 a1 k
 unfold impl_DeltaOf.f
 repeat' first
  | (with_reducible exact impl_TextOk.mono _ _)
  | (with_reducible exact impl_deltaOf.mono _ _ _)
  | (with_reducible exact LeO.refl _)
  | (with_reducible exact LeO.none _)
  | (with_reducible refine LeO.ite ?_ ?_)
  | (with_reducible refine LeO.bind ?_ (fun _ => ?_))
  | exact impl_TextOk.mono _ _
  | exact impl_deltaOf.mono _ _ _
  | exact LeO.none _
  | refine LeO.ite ?_ ?_
  | refine LeO.bind ?_ (fun _ => ?_)
set_option maxHeartbeats 8000000 in
set_option maxRecDepth 100000 in
theorem impl_DeltaOf.calls (k : Nat) (A0 : Option Addr) (c0 : Nat) (l0 : List ByteArray) (A1 : Option Addr) (c1 : Nat) (l1 : List ByteArray) (r : List (S39)) (w : World) (hr0 : Kd.C Kd.string w A0 l0.length l0) (hc0 : l0.length ≤ c0) (hr1 : Kd.C Kd.string w A1 l1.length l1) (hc1 : l1.length ≤ c1) (h : impl_DeltaOf.f k l0 l1 = some r) :
 Calls Try.prog 21 #[.slice A0 l0.length c0, .slice A1 l1.length c1] w fun e w' => ∃ v0_ : Value, e = .returned (v0_) ∧ Kd.S k39 39 w' w.heap.size (fun _ => True) v0_ r ∧ Below w.heap.size w w' := by
 have HR0 := Aside0.mk hr0; have HC0 := Aside0.mk hc0; clear hr0 hc0; have HR1 := Aside0.mk hr1; have HC1 := Aside0.mk hc1; clear hr1 hc1; have HB := Aside0.mk (Below.refl w.heap.size w); have H : ((impl_TextOk.f k l0).bind fun t379 => (if t379 = true then ((impl_TextOk.f k l1).bind fun t380 => (if t380 = true then ((impl_deltaOf.f k l0 l1).bind fun t381 => (some t381)) else (some ([] : List (S39))))) else (some ([] : List (S39))))) = some r := h; clear h; replace H := Option.bind_eq_some_iff.mp H; obtain ⟨t379, A30, H⟩ := H; replace H : (if t379 = true then ((impl_TextOk.f k l1).bind fun t380 => (if t380 = true then ((impl_deltaOf.f k l0 l1).bind fun t381 => (some t381)) else (some ([] : List (S39))))) else (some ([] : List (S39)))) = some r := H; have A3 := Aside0.mk A30; clear A30; by_cases c4 : t379 = true
 ·subst c4; (have H1 : ((impl_TextOk.f k l1).bind fun t380 => (if t380 = true then ((impl_deltaOf.f k l0 l1).bind fun t381 => (some t381)) else (some ([] : List (S39))))) = some r := by rw [if_pos rfl] at H; exact H); clear H; have H := H1; clear H1; replace H := Option.bind_eq_some_iff.mp H; obtain ⟨t380, A50, H⟩ := H; replace H : (if t380 = true then ((impl_deltaOf.f k l0 l1).bind fun t381 => (some t381)) else (some ([] : List (S39)))) = some r := H; have A5 := Aside0.mk A50; clear A50; by_cases c6 : t380 = true
  ·subst c6; (have H1 : ((impl_deltaOf.f k l0 l1).bind fun t381 => (some t381)) = some r := by rw [if_pos rfl] at H; exact H); clear H; have H := H1; clear H1; replace H := Option.bind_eq_some_iff.mp H; obtain ⟨t381, A70, H⟩ := H; replace H : (some t381) = some r := H; have A7 := Aside0.mk A70; clear A70; obtain rfl := Option.some.inj H; go_enter Try.func21, Try.ntmps21; go_wp2_with (first | ((with_reducible refine gate_callee (f := 24) rfl ?_); refine goesL_ (some 6) rfl rfl Try.func24 (by kernel_rfl) rfl #[.slice A0 l0.length c0] rfl (by (try simp only [List.map_toArray, List.map_cons, List.map_nil]); first | done | rfl | (simp only [List.length_drop, List.length_take]; rfl)) ?_; (with_reducible refine (impl_TextOk.calls k _ _ l0 true _ ?side1 ?side2 A3.out).mono ?_); (case side1 => repeat (first | exact HR0.out | (with_reducible refine Kd.C_alloc ?_ _) | (with_reducible refine Kd.C_drewN ?_ _) | (with_reducible refine Kd.C_drew ?_))); (case side2 => exact HC0.out); rintro e w' ⟨rfl, ⟨nd, rfl⟩⟩; refine ⟨_, rfl, ?_⟩) | (go_at_call 24; (with_reducible refine (impl_TextOk.calls k _ _ l1 true _ ?side1 ?side2 A5.out).mono ?_); (case side1 => repeat (first | exact HR1.out | (with_reducible refine Kd.C_alloc ?_ _) | (with_reducible refine Kd.C_drewN ?_ _) | (with_reducible refine Kd.C_drew ?_))); (case side2 => exact HC1.out); rintro e w' ⟨rfl, ⟨nd, rfl⟩⟩) | ((with_reducible refine gate_callee (f := 70) rfl ?_); refine goesL_ (some 15) rfl rfl Try.func70 (by kernel_rfl) rfl #[.slice A0 l0.length c0, .slice A1 l1.length c1] rfl (by (try simp only [List.map_toArray, List.map_cons, List.map_nil]); first | done | rfl | (simp only [List.length_drop, List.length_take]; rfl)) ?_; (with_reducible refine (impl_deltaOf.calls k _ _ l0 (fun k_ => k_ < w.heap.size) _ _ l1 t381 _ ?side1 ?side2 ?side3 A7.out).mono ?_); (case side1 => repeat (first | exact HR0.out | (with_reducible refine Kd.C_alloc ?_ _) | (with_reducible refine Kd.C_drewN ?_ _) | (with_reducible refine Kd.C_drew ?_))); (case side2 => exact HC0.out); (case side3 => exact Kd.V_mk HC1.out (Kd.F_below (Kd.C_F Kd.heap_string HR1.out) (by repeat (first | (with_reducible first | exact HB.out | apply below_alloc | apply pw_below_drewN | apply below_drew1) | exact HB.out)))); rintro e w8 ⟨v382, rfl, ho0, hb⟩; refine ⟨_, rfl, ?_⟩; have n0_ := Aside0.mk (Kd.S_lower (Kd.S_mono (ok' := fun k_ => True) ho0 (fun _ hk_ => trivial)) (below_size (by repeat (first | (with_reducible first | exact HB.out | apply below_alloc | apply pw_below_drewN | apply below_drew1) | exact HB.out)))); have n1_ := Aside0.mk (below_step (by repeat (first | (with_reducible first | exact HB.out | apply below_alloc | apply pw_below_drewN | apply below_drew1) | exact HB.out)) hb); clear HB; have HO383 := n0_; have HB := n1_; clear n0_ n1_; (try clear hb); (try clear hb2); (try clear hk); (try clear hi); (try clear ho0))); go_ret; exact ⟨_, by first | rfl | (simp <;> rfl) | (simp [*] <;> rfl), by (with_reducible repeat (first | apply Kd.S_alloc | apply Kd.S_drewN | apply Kd.S_drew)); exact HO383.out, by repeat (first | (with_reducible first | exact HB.out | apply below_alloc | apply pw_below_drewN | apply below_drew1) | exact HB.out)⟩
  ·replace c6 := Bool.eq_false_iff.mpr c6; subst c6; (have H1 : (some ([] : List (S39))) = some r := by rw [if_neg (show ¬ (false = true) by decide)] at H; exact H); clear H; have H := H1; clear H1; obtain rfl := Option.some.inj H; go_enter Try.func21, Try.ntmps21; go_wp2_with (first | ((with_reducible refine gate_callee (f := 24) rfl ?_); refine goesL_ (some 6) rfl rfl Try.func24 (by kernel_rfl) rfl #[.slice A0 l0.length c0] rfl (by (try simp only [List.map_toArray, List.map_cons, List.map_nil]); first | done | rfl | (simp only [List.length_drop, List.length_take]; rfl)) ?_; (with_reducible refine (impl_TextOk.calls k _ _ l0 true _ ?side1 ?side2 A3.out).mono ?_); (case side1 => repeat (first | exact HR0.out | (with_reducible refine Kd.C_alloc ?_ _) | (with_reducible refine Kd.C_drewN ?_ _) | (with_reducible refine Kd.C_drew ?_))); (case side2 => exact HC0.out); rintro e w' ⟨rfl, ⟨nd, rfl⟩⟩; refine ⟨_, rfl, ?_⟩) | (go_at_call 24; (with_reducible refine (impl_TextOk.calls k _ _ l1 false _ ?side1 ?side2 A5.out).mono ?_); (case side1 => repeat (first | exact HR1.out | (with_reducible refine Kd.C_alloc ?_ _) | (with_reducible refine Kd.C_drewN ?_ _) | (with_reducible refine Kd.C_drew ?_))); (case side2 => exact HC1.out); rintro e w' ⟨rfl, ⟨nd, rfl⟩⟩)); go_ret; exact ⟨_, by first | rfl | (simp <;> rfl) | (simp [*] <;> rfl), by first | exact Kd.S_nil _ _ _ _ _ | exact Kd.N_nil _ _ _ _ _ | exact Kd.V_nil _ _ _ _ _ | exact Kd.Q_nil _ _ _ _ _ | exact Kd.R_nil _ _ _ _ _, by repeat (first | (with_reducible first | exact HB.out | apply below_alloc | apply pw_below_drewN | apply below_drew1) | exact HB.out)⟩
 ·replace c4 := Bool.eq_false_iff.mpr c4; subst c4; (have H1 : (some ([] : List (S39))) = some r := by rw [if_neg (show ¬ (false = true) by decide)] at H; exact H); clear H; have H := H1; clear H1; obtain rfl := Option.some.inj H; go_enter Try.func21, Try.ntmps21; go_wp2_with (first | ((with_reducible refine gate_callee (f := 24) rfl ?_); refine goesL_ (some 6) rfl rfl Try.func24 (by kernel_rfl) rfl #[.slice A0 l0.length c0] rfl (by (try simp only [List.map_toArray, List.map_cons, List.map_nil]); first | done | rfl | (simp only [List.length_drop, List.length_take]; rfl)) ?_; (with_reducible refine (impl_TextOk.calls k _ _ l0 false _ ?side1 ?side2 A3.out).mono ?_); (case side1 => repeat (first | exact HR0.out | (with_reducible refine Kd.C_alloc ?_ _) | (with_reducible refine Kd.C_drewN ?_ _) | (with_reducible refine Kd.C_drew ?_))); (case side2 => exact HC0.out); rintro e w' ⟨rfl, ⟨nd, rfl⟩⟩; refine ⟨_, rfl, ?_⟩)); go_ret; exact ⟨_, by first | rfl | (simp <;> rfl) | (simp [*] <;> rfl), by first | exact Kd.S_nil _ _ _ _ _ | exact Kd.N_nil _ _ _ _ _ | exact Kd.V_nil _ _ _ _ _ | exact Kd.Q_nil _ _ _ _ _ | exact Kd.R_nil _ _ _ _ _, by repeat (first | (with_reducible first | exact HB.out | apply below_alloc | apply pw_below_drewN | apply below_drew1) | exact HB.out)⟩
end Go.Proofs.Ytfnhjaiioojbkaa.Q
end
section
namespace Go.Proofs.Ytfnhjaiioojbkaa.Q
open Go.RowKit Go.Proofs.YtfnhjaiioojbkaaW.PrintWords Go.Proofs.YtfnhjaiioojbkaaW.PrintLast Go.Proofs.YtfnhjaiioojbkaaW.PrintMore
attribute [local go_sem] max2_int min2_int max_two min_two max_three min_three max_four min_four   -- for this text's walks alone
set_option linter.unusedVariables false
set_option linter.unusedSimpArgs false
def spec_DeltaOf.f (k : Nat) (l0 : List ByteArray) (l1 : List ByteArray) : Option ((List (S39))) := (spec_l1Ok.f k l0).bind fun t437 => (if t437 = true then ((spec_l1Ok.f k l1).bind fun t438 => (if t438 = true then ((spec_l13Of.f k l0 l1).bind fun t439 => (some t439)) else (some ([] : List (S39))))) else (some ([] : List (S39))))
theorem spec_DeltaOf.mono : ∀ a0 a1 k, LeO (spec_DeltaOf.f k a0 a1) (spec_DeltaOf.f (k + 1) a0 a1) := by
 intro a0 a1 k
 unfold spec_DeltaOf.f
 repeat' first
  | (with_reducible exact spec_l13Of.mono _ _ _)
  | (with_reducible exact spec_l1Ok.mono _ _)
  | (with_reducible exact LeO.refl _)
  | (with_reducible exact LeO.none _)
  | (with_reducible refine LeO.ite ?_ ?_)
  | (with_reducible refine LeO.bind ?_ (fun _ => ?_))
  | exact spec_l13Of.mono _ _ _
  | exact spec_l1Ok.mono _ _
  | exact LeO.none _
  | refine LeO.ite ?_ ?_
  | refine LeO.bind ?_ (fun _ => ?_)
set_option maxHeartbeats 8000000 in
set_option maxRecDepth 100000 in
theorem spec_DeltaOf.calls (k : Nat) (A0 : Option Addr) (c0 : Nat) (l0 : List ByteArray) (A1 : Option Addr) (c1 : Nat) (l1 : List ByteArray) (r : List (S39)) (w : World) (hr0 : Kd.C Kd.string w A0 l0.length l0) (hc0 : l0.length ≤ c0) (hr1 : Kd.C Kd.string w A1 l1.length l1) (hc1 : l1.length ≤ c1) (h : spec_DeltaOf.f k l0 l1 = some r) :
 Calls Try.prog 23 #[.slice A0 l0.length c0, .slice A1 l1.length c1] w fun e w' => ∃ v0_ : Value, e = .returned (v0_) ∧ Kd.S k39 39 w' w.heap.size (fun _ => True) v0_ r ∧ Below w.heap.size w w' := by
 have HR0 := Aside0.mk hr0; have HC0 := Aside0.mk hc0; clear hr0 hc0; have HR1 := Aside0.mk hr1; have HC1 := Aside0.mk hc1; clear hr1 hc1; have HB := Aside0.mk (Below.refl w.heap.size w); have H : ((spec_l1Ok.f k l0).bind fun t437 => (if t437 = true then ((spec_l1Ok.f k l1).bind fun t438 => (if t438 = true then ((spec_l13Of.f k l0 l1).bind fun t439 => (some t439)) else (some ([] : List (S39))))) else (some ([] : List (S39))))) = some r := h; clear h; replace H := Option.bind_eq_some_iff.mp H; obtain ⟨t437, A30, H⟩ := H; replace H : (if t437 = true then ((spec_l1Ok.f k l1).bind fun t438 => (if t438 = true then ((spec_l13Of.f k l0 l1).bind fun t439 => (some t439)) else (some ([] : List (S39))))) else (some ([] : List (S39)))) = some r := H; have A3 := Aside0.mk A30; clear A30; by_cases c4 : t437 = true
 ·subst c4; (have H1 : ((spec_l1Ok.f k l1).bind fun t438 => (if t438 = true then ((spec_l13Of.f k l0 l1).bind fun t439 => (some t439)) else (some ([] : List (S39))))) = some r := by rw [if_pos rfl] at H; exact H); clear H; have H := H1; clear H1; replace H := Option.bind_eq_some_iff.mp H; obtain ⟨t438, A50, H⟩ := H; replace H : (if t438 = true then ((spec_l13Of.f k l0 l1).bind fun t439 => (some t439)) else (some ([] : List (S39)))) = some r := H; have A5 := Aside0.mk A50; clear A50; by_cases c6 : t438 = true
  ·subst c6; (have H1 : ((spec_l13Of.f k l0 l1).bind fun t439 => (some t439)) = some r := by rw [if_pos rfl] at H; exact H); clear H; have H := H1; clear H1; replace H := Option.bind_eq_some_iff.mp H; obtain ⟨t439, A70, H⟩ := H; replace H : (some t439) = some r := H; have A7 := Aside0.mk A70; clear A70; obtain rfl := Option.some.inj H; go_enter Try.func23, Try.ntmps23; go_wp2_with (first | ((with_reducible refine gate_callee (f := 71) rfl ?_); refine goesL_ (some 6) rfl rfl Try.func71 (by kernel_rfl) rfl #[.slice A0 l0.length c0] rfl (by (try simp only [List.map_toArray, List.map_cons, List.map_nil]); first | done | rfl | (simp only [List.length_drop, List.length_take]; rfl)) ?_; (with_reducible refine (spec_l1Ok.calls k _ _ l0 true _ ?side1 ?side2 A3.out).mono ?_); (case side1 => repeat (first | exact HR0.out | (with_reducible refine Kd.C_alloc ?_ _) | (with_reducible refine Kd.C_drewN ?_ _) | (with_reducible refine Kd.C_drew ?_))); (case side2 => exact HC0.out); rintro e w' ⟨rfl, ⟨nd, rfl⟩⟩; refine ⟨_, rfl, ?_⟩) | (go_at_call 71; (with_reducible refine (spec_l1Ok.calls k _ _ l1 true _ ?side1 ?side2 A5.out).mono ?_); (case side1 => repeat (first | exact HR1.out | (with_reducible refine Kd.C_alloc ?_ _) | (with_reducible refine Kd.C_drewN ?_ _) | (with_reducible refine Kd.C_drew ?_))); (case side2 => exact HC1.out); rintro e w' ⟨rfl, ⟨nd, rfl⟩⟩) | ((with_reducible refine gate_callee (f := 72) rfl ?_); refine goesL_ (some 15) rfl rfl Try.func72 (by kernel_rfl) rfl #[.slice A0 l0.length c0, .slice A1 l1.length c1] rfl (by (try simp only [List.map_toArray, List.map_cons, List.map_nil]); first | done | rfl | (simp only [List.length_drop, List.length_take]; rfl)) ?_; (with_reducible refine (spec_l13Of.calls k _ _ l0 (fun k_ => k_ < w.heap.size) _ _ l1 t439 _ ?side1 ?side2 ?side3 A7.out).mono ?_); (case side1 => repeat (first | exact HR0.out | (with_reducible refine Kd.C_alloc ?_ _) | (with_reducible refine Kd.C_drewN ?_ _) | (with_reducible refine Kd.C_drew ?_))); (case side2 => exact HC0.out); (case side3 => exact Kd.V_mk HC1.out (Kd.F_below (Kd.C_F Kd.heap_string HR1.out) (by repeat (first | (with_reducible first | exact HB.out | apply below_alloc | apply pw_below_drewN | apply below_drew1) | exact HB.out)))); rintro e w8 ⟨v440, rfl, ho0, hb⟩; refine ⟨_, rfl, ?_⟩; have n0_ := Aside0.mk (Kd.S_lower (Kd.S_mono (ok' := fun k_ => True) ho0 (fun _ hk_ => trivial)) (below_size (by repeat (first | (with_reducible first | exact HB.out | apply below_alloc | apply pw_below_drewN | apply below_drew1) | exact HB.out)))); have n1_ := Aside0.mk (below_step (by repeat (first | (with_reducible first | exact HB.out | apply below_alloc | apply pw_below_drewN | apply below_drew1) | exact HB.out)) hb); clear HB; have HO441 := n0_; have HB := n1_; clear n0_ n1_; (try clear hb); (try clear hb2); (try clear hk); (try clear hi); (try clear ho0))); go_ret; exact ⟨_, by first | rfl | (simp <;> rfl) | (simp [*] <;> rfl), by (with_reducible repeat (first | apply Kd.S_alloc | apply Kd.S_drewN | apply Kd.S_drew)); exact HO441.out, by repeat (first | (with_reducible first | exact HB.out | apply below_alloc | apply pw_below_drewN | apply below_drew1) | exact HB.out)⟩
  ·replace c6 := Bool.eq_false_iff.mpr c6; subst c6; (have H1 : (some ([] : List (S39))) = some r := by rw [if_neg (show ¬ (false = true) by decide)] at H; exact H); clear H; have H := H1; clear H1; obtain rfl := Option.some.inj H; go_enter Try.func23, Try.ntmps23; go_wp2_with (first | ((with_reducible refine gate_callee (f := 71) rfl ?_); refine goesL_ (some 6) rfl rfl Try.func71 (by kernel_rfl) rfl #[.slice A0 l0.length c0] rfl (by (try simp only [List.map_toArray, List.map_cons, List.map_nil]); first | done | rfl | (simp only [List.length_drop, List.length_take]; rfl)) ?_; (with_reducible refine (spec_l1Ok.calls k _ _ l0 true _ ?side1 ?side2 A3.out).mono ?_); (case side1 => repeat (first | exact HR0.out | (with_reducible refine Kd.C_alloc ?_ _) | (with_reducible refine Kd.C_drewN ?_ _) | (with_reducible refine Kd.C_drew ?_))); (case side2 => exact HC0.out); rintro e w' ⟨rfl, ⟨nd, rfl⟩⟩; refine ⟨_, rfl, ?_⟩) | (go_at_call 71; (with_reducible refine (spec_l1Ok.calls k _ _ l1 false _ ?side1 ?side2 A5.out).mono ?_); (case side1 => repeat (first | exact HR1.out | (with_reducible refine Kd.C_alloc ?_ _) | (with_reducible refine Kd.C_drewN ?_ _) | (with_reducible refine Kd.C_drew ?_))); (case side2 => exact HC1.out); rintro e w' ⟨rfl, ⟨nd, rfl⟩⟩)); go_ret; exact ⟨_, by first | rfl | (simp <;> rfl) | (simp [*] <;> rfl), by first | exact Kd.S_nil _ _ _ _ _ | exact Kd.N_nil _ _ _ _ _ | exact Kd.V_nil _ _ _ _ _ | exact Kd.Q_nil _ _ _ _ _ | exact Kd.R_nil _ _ _ _ _, by repeat (first | (with_reducible first | exact HB.out | apply below_alloc | apply pw_below_drewN | apply below_drew1) | exact HB.out)⟩
 ·replace c4 := Bool.eq_false_iff.mpr c4; subst c4; (have H1 : (some ([] : List (S39))) = some r := by rw [if_neg (show ¬ (false = true) by decide)] at H; exact H); clear H; have H := H1; clear H1; obtain rfl := Option.some.inj H; go_enter Try.func23, Try.ntmps23; go_wp2_with (first | ((with_reducible refine gate_callee (f := 71) rfl ?_); refine goesL_ (some 6) rfl rfl Try.func71 (by kernel_rfl) rfl #[.slice A0 l0.length c0] rfl (by (try simp only [List.map_toArray, List.map_cons, List.map_nil]); first | done | rfl | (simp only [List.length_drop, List.length_take]; rfl)) ?_; (with_reducible refine (spec_l1Ok.calls k _ _ l0 false _ ?side1 ?side2 A3.out).mono ?_); (case side1 => repeat (first | exact HR0.out | (with_reducible refine Kd.C_alloc ?_ _) | (with_reducible refine Kd.C_drewN ?_ _) | (with_reducible refine Kd.C_drew ?_))); (case side2 => exact HC0.out); rintro e w' ⟨rfl, ⟨nd, rfl⟩⟩; refine ⟨_, rfl, ?_⟩)); go_ret; exact ⟨_, by first | rfl | (simp <;> rfl) | (simp [*] <;> rfl), by first | exact Kd.S_nil _ _ _ _ _ | exact Kd.N_nil _ _ _ _ _ | exact Kd.V_nil _ _ _ _ _ | exact Kd.Q_nil _ _ _ _ _ | exact Kd.R_nil _ _ _ _ _, by repeat (first | (with_reducible first | exact HB.out | apply below_alloc | apply pw_below_drewN | apply below_drew1) | exact HB.out)⟩
end Go.Proofs.Ytfnhjaiioojbkaa.Q
end
section
namespace Go.Proofs.Ytfnhjaiioojbkaa.Q
open Go.RowKit Go.Proofs.YtfnhjaiioojbkaaW.PrintWords Go.Proofs.YtfnhjaiioojbkaaW.PrintLast Go.Proofs.YtfnhjaiioojbkaaW.PrintMore
attribute [local go_sem] max2_int min2_int max_two min_two max_three min_three max_four min_four   -- for this text's walks alone
set_option linter.unusedVariables false
set_option linter.unusedSimpArgs false
def spec_DeltaOk.f (k : Nat) (l0 : List (S39)) : Option (Bool) := (spec_l13Ok.f k l0).bind fun t108 => (some t108)
theorem spec_DeltaOk.mono : ∀ a0 k, LeO (spec_DeltaOk.f k a0) (spec_DeltaOk.f (k + 1) a0) := by
 intro a0 k
 unfold spec_DeltaOk.f
 repeat' first
  | (with_reducible exact spec_l13Ok.mono _ _)
  | (with_reducible exact LeO.refl _)
  | (with_reducible exact LeO.none _)
  | (with_reducible refine LeO.ite ?_ ?_)
  | (with_reducible refine LeO.bind ?_ (fun _ => ?_))
  | exact spec_l13Ok.mono _ _
  | exact LeO.none _
  | refine LeO.ite ?_ ?_
  | refine LeO.bind ?_ (fun _ => ?_)
set_option maxHeartbeats 8000000 in
set_option maxRecDepth 100000 in
theorem spec_DeltaOk.calls (k : Nat) (A0 : Option Addr) (c0 : Nat) (l0 : List (S39)) (r : Bool) (w : World) (hr0 : Kd.C k39 w A0 l0.length l0) (hc0 : l0.length ≤ c0) (h : spec_DeltaOk.f k l0 = some r) :
 Calls Try.prog 16 #[.slice A0 l0.length c0] w fun e w' => e = .returned (.bool r) ∧ Below w.heap.size w w' := by
 have HR0 := Aside0.mk hr0; have HC0 := Aside0.mk hc0; clear hr0 hc0; have HB := Aside0.mk (Below.refl w.heap.size w); have H : ((spec_l13Ok.f k l0).bind fun t108 => (some t108)) = some r := h; clear h; replace H := Option.bind_eq_some_iff.mp H; obtain ⟨t108, A20, H⟩ := H; replace H : (some t108) = some r := H; have A2 := Aside0.mk A20; clear A20; obtain rfl := Option.some.inj H; go_enter Try.func16, Try.ntmps16; go_wp2_with (first | ((with_reducible refine gate_callee (f := 61) rfl ?_); refine goesL_ (some 4) rfl rfl Try.func61 (by kernel_rfl) rfl #[.slice A0 l0.length c0] rfl (by (try simp only [List.map_toArray, List.map_cons, List.map_nil]); first | done | rfl | (simp only [List.length_drop, List.length_take]; rfl)) ?_; (with_reducible refine (spec_l13Ok.calls k _ _ l0 t108 _ ?side1 ?side2 A2.out).mono ?_); (case side1 => repeat (first | exact HR0.out | (with_reducible refine Kd.C_alloc ?_ _) | (with_reducible refine Kd.C_drewN ?_ _) | (with_reducible refine Kd.C_drew ?_))); (case side2 => exact HC0.out); rintro e w3 ⟨rfl, hb⟩; refine ⟨_, rfl, ?_⟩; have n0_ := Aside0.mk (below_step (by repeat (first | (with_reducible first | exact HB.out | apply below_alloc | apply pw_below_drewN | apply below_drew1) | exact HB.out)) hb); clear HB; have HB := n0_; clear n0_; (try clear hb); (try clear hb2); (try clear hk); (try clear hi))); go_ret; exact ⟨by first | rfl | (simp <;> rfl) | (simp [*] <;> rfl), by repeat (first | (with_reducible first | exact HB.out | apply below_alloc | apply pw_below_drewN | apply below_drew1) | exact HB.out)⟩
end Go.Proofs.Ytfnhjaiioojbkaa.Q
end
section
namespace Go.Proofs.Ytfnhjaiioojbkaa.Q
open Go.RowKit Go.Proofs.YtfnhjaiioojbkaaW.PrintWords
set_option linter.unusedVariables false
set_option linter.unusedSimpArgs false
def pB (f0 f1 : Int) (L : Nat) (T : Bool) : Bool := (decide (1 ≤ f1) && decide (0 ≤ f0) && decide (f0 ≤ 10) && decide (f1 ≤ 10 - f0) && decide (L = 0)) || (decide (f0 = 0) && decide (f1 = 0) && decide (0 < L) && T)
def pieceB (x : Dl) : Bool := pB x.f0 x.f1 x.f2.length (textB x.f2)
theorem textB_nil {l : List ByteArray} (h : l.length = 0) : textB l = true := by
  rw [List.eq_nil_of_length_eq_zero h]
  rfl
theorem pB_good {f0 f1 : Int} {L : Nat} {T bad : Bool} (hbad : bad = (!(decide (0 ≤ f0) && decide (f0 ≤ 10) && (decide (0 ≤ f1) && decide (f1 ≤ 10 - f0)) && T)))
    (c1 : bad = false) (c2 : ¬ ((decide (f1 > 0)) == (decide ((L : Int) > 0))) = true) (c3 : f1 = 0 → f0 = 0) : pB f0 f1 L T = true := by
  subst hbad
  by_cases a : f1 > 0 <;> by_cases b : (L : Int) > 0 <;> cases T <;> simp [a, b] at c1 c2 <;> simp [pB] <;> omega
theorem pB_bad {f0 f1 : Int} {L : Nat} {T bad : Bool} (hT : L = 0 → T = true) (hbad : bad = (!(decide (0 ≤ f0) && decide (f0 ≤ 10) && (decide (0 ≤ f1) && decide (f1 ≤ 10 - f0)) && T)))
    (hb : bad = true ∨ ((decide (f1 > 0)) == (decide ((L : Int) > 0))) = true ∨ (f1 = 0 ∧ f0 ≠ 0)) : pB f0 f1 L T = false := by
  subst hbad
  rw [Bool.eq_false_iff]
  intro h
  simp only [pB, Bool.or_eq_true, Bool.and_eq_true, decide_eq_true_eq] at h
  rcases h with ⟨⟨⟨⟨h1, h2⟩, h3⟩, h4⟩, h5⟩ | ⟨⟨⟨h1, h2⟩, h3⟩, h4⟩
  · have ht := hT h5
    rcases hb with hb | hb | hb
    · rw [ht, decide_eq_true h2, decide_eq_true h3, decide_eq_true h4, decide_eq_true (show 0 ≤ f1 by omega)] at hb
      cases hb
    · rw [decide_eq_true (show f1 > 0 by omega), decide_eq_false (show ¬ (L : Int) > 0 by omega)] at hb
      cases hb
    · omega
  · subst h1; subst h2; subst h4
    rcases hb with hb | hb | hb
    · simp at hb
    · rw [decide_eq_false (show ¬ (0 : Int) > 0 by omega), decide_eq_true (show (L : Int) > 0 by omega)] at hb
      cases hb
    · exact hb.2 rfl
def deltaB (d : List Dl) : Bool := decide (d.length ≤ 10) && d.all pieceB
theorem within_eq (a b c : Int) : impl_within.f a b c = some (decide (b ≤ a) && decide (a ≤ c)) := by
  unfold impl_within.f
  by_cases h : b ≤ a
  · rw [if_pos h]; simp [h]
  · rw [if_neg h]; simp [h]
theorem in_eq (a b c : Int) : spec_l1In.f a b c = some (decide (b ≤ a) && decide (a ≤ c)) := by
  unfold spec_l1In.f
  by_cases h : b ≤ a
  · rw [if_pos h]; simp [h]
  · rw [if_neg h]; simp [h]
theorem implPiece_ev (k0 k1 : Int) (l : List ByteArray) (hl : Sm l) : Ev (fun k => impl_DeltaOk_1.f k k0 k1 l) (!pieceB ⟨k0, k1, l⟩) := by
  have hT := implText_ev l hl
  unfold impl_DeltaOk_1.f
  by_cases h0 : 0 ≤ k0 ∧ k0 ≤ 10
  · have hw : wrap64 (10 - k0) = 10 - k0 := w64 (by omega) (by omega)
    simp only [within_eq, Option.bind_some, hw]
    repeat' first
      | (refine Ev.ite (fun _ => ?_) (fun _ => ?_))
      | (refine Ev.bind hT ?_)
    all_goals (refine EvT (Ev.now _) ?_; clear hT hl; show _ = !pB k0 k1 l.length (textB l); generalize textB l = T at *; generalize l.length = L at *; cases T <;> simp_all [pB] <;> omega)
  · have hn : (decide (0 ≤ k0) && decide (k0 ≤ 10)) = false := by rw [Bool.eq_false_iff]; simpa using h0
    simp only [within_eq, Option.bind_some, hn]
    repeat' first
      | (refine Ev.negf (show ¬ (false = true) by decide) ?_)
      | (refine Ev.ite (fun _ => ?_) (fun _ => ?_))
      | (refine Ev.bind hT ?_)
    all_goals (refine EvT (Ev.now _) ?_; clear hT hl; show _ = !pB k0 k1 l.length (textB l); generalize textB l = T at *; generalize l.length = L at *; cases T <;> simp_all [pB] <;> omega)
/-- Pieces whose loops are not long. -/
def SmD (d : List Dl) : Prop := d.length ≤ 100000 ∧ ∀ x ∈ d, Sm x.f2
theorem implOk_ev (d : List Dl) (hd : SmD d) : Ev (fun k => impl_DeltaOk.f k d) (deltaB d) := by
  unfold impl_DeltaOk.f
  by_cases c : d.length ≤ 10
  · refine Ev.posf c (EvT (Ev.mapf _ (anyF_ev impl_DeltaOk.p (fun x => !pieceB x) d (fun x hx => ?_))) ?_)
    · exact implPiece_ev x.f0 x.f1 x.f2 (hd.2 x hx)
    · rw [deltaB, decide_eq_true c, Bool.true_and, ← List.not_all_eq_any_not]
      simp
  · exact Ev.negf c (EvT (Ev.now _) (by simp [deltaB]; omega))
theorem specOk1_ev (d : List Dl) (hd : SmD d) (i : Nat) (hi : i < d.length) (bad : Bool) (r : Bool)
    (hg : (bad = false → ¬ ((decide (d[i].f1 > 0)) == (decide (((d[i].f2).length : Int) > 0))) = true → (d[i].f1 = 0 → d[i].f0 = 0) → Ev (fun k => spec_l13Ok.l0 k d ((i + 1 : Nat) : Int)) r))
    (hb : bad = true ∨ ((decide (d[i].f1 > 0)) == (decide (((d[i].f2).length : Int) > 0))) = true ∨ (d[i].f1 = 0 ∧ d[i].f0 ≠ 0) → r = false) :
    Ev (fun k => spec_l13Ok.j1 k d i bad) r := by
  refine Ev.step' ?_
  have hi2 := hd.1
  simp only [spec_l13Ok.j1, rdD hi, w64_succ i (by omega)]
  refine Ev.ite (fun c => EvT (Ev.now _) (hb (.inl c)).symm) (fun c => Ev.posf (by omega) (Ev.posf (by omega) (Ev.ite (fun c1 => EvT (Ev.now _) (hb (.inr (.inl c1))).symm) (fun c1 => Ev.ite (fun c2 => Ev.ite (fun c3 => hg (by simpa using c) c1 (fun _ => c3)) (fun c3 => EvT (Ev.now _) (hb (.inr (.inr ⟨c2, c3⟩))).symm)) (fun c2 => hg (by simpa using c) c1 (fun h => absurd h c2))))))
theorem specOk0_ev (d : List Dl) (hd : SmD d) : ∀ (n i : Nat), i ≤ d.length → d.length - i = n → Ev (fun k => spec_l13Ok.l0 k d i) ((d.drop i).all pieceB && decide (d.length ≤ 10))
  | 0, i, hi, hn => by
    refine Ev.step' ?_
    simp only [spec_l13Ok.l0]
    rw [List.drop_eq_nil_of_le (by omega)]
    exact Ev.negf (by omega) (EvT (Ev.now _) (by simp; omega))
  | n + 1, i, hi, hn => by
    have h : i < d.length := by omega
    have hT := specText_ev _ (hd.2 _ (List.getElem_mem h))
    have ih := specOk0_ev d hd n (i + 1) (by omega) (by omega)
    rw [drop_all pieceB d i h]
    refine Ev.step' ?_
    simp only [spec_l13Ok.l0, rdD h, in_eq, Option.bind_some]
    refine Ev.posf (by omega) (Ev.posf (by omega) ?_)
    generalize (d.drop (i + 1)).all pieceB = q at ih
    have key : ∀ bad : Bool, (bad = (!(decide (0 ≤ d[i].f0) && decide (d[i].f0 ≤ 10) && (decide (0 ≤ d[i].f1) && decide (d[i].f1 ≤ 10 - d[i].f0)) && textB d[i].f2))) → Ev (fun k => spec_l13Ok.j1 k d i bad) (pieceB d[i] && q && decide (d.length ≤ 10)) := by
      intro bad hbad
      refine specOk1_ev d hd i h bad _ (fun c1 c2 c3 => ?_) (fun hb => ?_)
      · rw [show pieceB d[i] = true from pB_good hbad c1 c2 c3, Bool.true_and]
        exact ih
      · rw [show pieceB d[i] = false from pB_bad textB_nil hbad hb]; rfl
    by_cases h0 : 0 ≤ d[i].f0 ∧ d[i].f0 ≤ 10
    · have hw : wrap64 (10 - d[i].f0) = 10 - d[i].f0 := w64 (by omega) (by omega)
      simp only [hw]
      refine Ev.posf (by simpa using h0) (Ev.ite (fun c => Ev.bind hT (key _ ?_)) (fun c => key _ ?_))
      · simp at c; simp [h0, c]
      · rw [Bool.eq_false_iff.mpr c]; simp
    · exact Ev.negf (by simpa using h0) (key _ (by rw [show (decide (0 ≤ d[i].f0) && decide (d[i].f0 ≤ 10)) = false by rw [Bool.eq_false_iff]; simpa using h0]; simp))
theorem specOk_ev (d : List Dl) (hd : SmD d) : Ev (fun k => spec_l13Ok.f k d) (deltaB d) := by
  unfold spec_l13Ok.f
  exact EvT (specOk0_ev d hd _ 0 (by omega) rfl) (by simp [deltaB, Bool.and_comm])
theorem specDeltaOk_ev (d : List Dl) (hd : SmD d) : Ev (fun k => spec_DeltaOk.f k d) (deltaB d) := by
  unfold spec_DeltaOk.f
  exact Ev.bind (specOk_ev d hd) (Ev.now _)
end Go.Proofs.Ytfnhjaiioojbkaa.Q
end
section
namespace Go.Proofs.Ytfnhjaiioojbkaa.Q
open Go.RowKit Go.Proofs.YtfnhjaiioojbkaaW.PrintWords
set_option linter.unusedVariables false
set_option linter.unusedSimpArgs false
def doGo (base : Tx) : List Dl → Tx → Option Tx
  | [], acc => some acc
  | x :: d, acc => if x.f0 + x.f1 > base.length then none else doGo base d (acc ++ seg base x)
def fin : Option Tx → Tx × Bool
  | some x => if textB x = true then (x, true) else ([], false)
  | none => ([], false)
def doB (base : Tx) (d : List Dl) : Tx × Bool := if textB base = true ∧ deltaB d = true then fin (doGo base d []) else ([], false)
theorem textB_len {l : Tx} (h : textB l = true) : l.length ≤ 10 := by
  simp only [textB, Bool.and_eq_true, decide_eq_true_eq] at h
  exact h.1
theorem textB_size {l : Tx} (h : textB l = true) : ∀ s ∈ l, s.size ≤ 12 := by
  simp only [textB, Bool.and_eq_true, List.all_eq_true] at h
  intro s hs
  have := h.2 s hs
  simp only [lineB, Bool.and_eq_true, decide_eq_true_eq] at this
  exact this.2
theorem textB_Sm {l : Tx} (h : textB l = true) : Sm l := ⟨by have := textB_len h; omega, fun s hs => by have := textB_size h s hs; omega⟩
/-- What an ok piece is like. -/
theorem piece_ok {x : Dl} (h : pieceB x = true) : 0 ≤ x.f0 ∧ 0 ≤ x.f1 ∧ x.f0 + x.f1 ≤ 10 ∧ x.f2.length ≤ 10 ∧ ∀ s ∈ x.f2, s.size ≤ 12 := by
  simp only [pieceB, pB, Bool.or_eq_true, Bool.and_eq_true, decide_eq_true_eq] at h
  rcases h with ⟨⟨⟨⟨h1, h2⟩, h3⟩, h4⟩, h5⟩ | ⟨⟨⟨h1, h2⟩, h3⟩, h4⟩
  · rw [List.eq_nil_of_length_eq_zero h5]
    exact ⟨by omega, by omega, by omega, by simp, by simp⟩
  · exact ⟨by omega, by omega, by omega, textB_len h4, textB_size h4⟩
theorem seg_in {base : Tx} {x : Dl} (hb : textB base = true) (h : pieceB x = true) : (seg base x).length ≤ 20 ∧ ∀ s ∈ seg base x, s.size ≤ 12 := by
  have hb1 := textB_len hb
  obtain ⟨_, _, _, h4, h5⟩ := piece_ok h
  refine ⟨by simp [seg]; omega, fun s hs => ?_⟩
  rcases List.mem_append.mp hs with hs | hs
  · exact textB_size hb s (List.mem_of_mem_take (List.mem_of_mem_drop hs))
  · exact h5 s hs
theorem implDo_ev {base : Tx} (hb : textB base = true) (d : List Dl) (hd : ∀ x ∈ d, pieceB x = true) (hl : d.length ≤ 1000) : ∀ (n i : Nat) (acc : Tx), i ≤ d.length → d.length - i = n → acc.length ≤ 20 * i → (∀ s ∈ acc, s.size ≤ 12) →
    Ev (fun k => impl_DeltaDo.l0 k base acc d d.length i) (fin (doGo base (d.drop i) acc))
  | 0, i, acc, hi, hn, ha, hz => by
    rw [List.drop_eq_nil_of_le (by omega)]
    have hT := implText_ev acc ⟨by omega, fun s hs => by have := hz s hs; omega⟩
    refine Ev.step' ?_
    simp only [impl_DeltaDo.l0]
    refine Ev.negf (by omega) (Ev.bind hT (Ev.ite (fun c => EvT (Ev.now _) ?_) (fun c => EvT (Ev.now _) ?_)))
    · simp [doGo, fin, c]
    · simp [doGo, fin, c]
  | n + 1, i, acc, hi, hn, ha, hz => by
    have h : i < d.length := by omega
    obtain ⟨p1, p2, p3, p4, p5⟩ := piece_ok (hd _ (List.getElem_mem h))
    have hb1 := textB_len hb
    obtain ⟨s1, s2⟩ := seg_in hb (hd _ (List.getElem_mem h))
    rw [List.drop_eq_getElem_cons h, doGo]
    have ih := implDo_ev hb d hd hl n (i + 1) (acc ++ seg base d[i]) (by omega) (by omega) (by simp; omega) (fun s hs => by rcases List.mem_append.mp hs with hs | hs; exact hz s hs; exact s2 s hs)
    refine Ev.step' ?_
    simp only [impl_DeltaDo.l0, rdD h, w64 (x := d[i].f0 + d[i].f1) (by omega) (by omega), w64_succ i (by omega)]
    refine Ev.posf (by omega) (Ev.posf (by omega) (Ev.posf (by omega) ?_))
    by_cases c : d[i].f0 + d[i].f1 > base.length
    · rw [if_pos c]
      exact Ev.posf c (Ev.now _)
    · rw [if_neg c]
      refine Ev.negf c (Ev.posf p1 (Ev.posf (by omega) (Ev.posf (by omega) (Ev.posf (by simp; omega) (Ev.somef (Ev.posf (by simp; omega) ?_))))))
      rw [List.append_assoc]
      exact ih
theorem specDo_ev {base : Tx} (hb : textB base = true) (d : List Dl) (hd : ∀ x ∈ d, pieceB x = true) (hl : d.length ≤ 1000) : ∀ (n i : Nat) (acc : Tx), i ≤ d.length → d.length - i = n → acc.length ≤ 20 * i → (∀ s ∈ acc, s.size ≤ 12) →
    Ev (fun k => spec_l13Do.l0 k base d acc i) (fin (doGo base (d.drop i) acc))
  | 0, i, acc, hi, hn, ha, hz => by
    rw [List.drop_eq_nil_of_le (by omega)]
    have hT := specText_ev acc ⟨by omega, fun s hs => by have := hz s hs; omega⟩
    refine Ev.step' ?_
    simp only [spec_l13Do.l0]
    refine Ev.negf (by omega) (Ev.bind hT (Ev.ite (fun c => EvT (Ev.now _) ?_) (fun c => EvT (Ev.now _) ?_)))
    · simp [doGo, fin, c]
    · simp [doGo, fin, c]
  | n + 1, i, acc, hi, hn, ha, hz => by
    have h : i < d.length := by omega
    obtain ⟨p1, p2, p3, p4, p5⟩ := piece_ok (hd _ (List.getElem_mem h))
    have hb1 := textB_len hb
    obtain ⟨s1, s2⟩ := seg_in hb (hd _ (List.getElem_mem h))
    rw [List.drop_eq_getElem_cons h, doGo]
    have ih := specDo_ev hb d hd hl n (i + 1) (acc ++ seg base d[i]) (by omega) (by omega) (by simp; omega) (fun s hs => by rcases List.mem_append.mp hs with hs | hs; exact hz s hs; exact s2 s hs)
    refine Ev.step' ?_
    simp only [spec_l13Do.l0, rdD h, w64 (x := d[i].f0 + d[i].f1) (by omega) (by omega), w64_succ i (by omega)]
    refine Ev.posf (by omega) (Ev.posf (by omega) ?_)
    by_cases c : d[i].f0 + d[i].f1 > base.length
    · rw [if_pos c]
      exact Ev.posf c (Ev.now _)
    · rw [if_neg c]
      refine Ev.negf c (Ev.posf p1 (Ev.posf (by omega) (Ev.posf (by omega) (Ev.posf (by simp; omega) (Ev.somef (Ev.posf (by simp; omega) ?_))))))
      rw [List.append_assoc]
      exact ih
theorem deltaB_len {d : List Dl} (h : deltaB d = true) : d.length ≤ 10 ∧ ∀ x ∈ d, pieceB x = true := by
  simp only [deltaB, Bool.and_eq_true, decide_eq_true_eq, List.all_eq_true] at h
  exact h
theorem implDeltaDo_ev (base : Tx) (d : List Dl) (hb : Sm base) (hd : SmD d) : Ev (fun k => impl_DeltaDo.f k base d) (doB base d) := by
  unfold impl_DeltaDo.f
  have bad : ∀ q : Bool, q = true → Ev (fun k => impl_DeltaDo.j0 k base d q) (([] : Tx), false) := fun q hq => by
    subst hq
    refine Ev.step' ?_
    simp only [impl_DeltaDo.j0]
    exact Ev.posf trivial (Ev.now _)
  refine Ev.bind (implText_ev base hb) (Ev.ite (fun c => Ev.bind (implOk_ev d hd) ?_) (fun c => EvT (bad _ rfl) (by rw [doB, if_neg (fun h => c h.1)])))
  cases hk : deltaB d with
  | false => exact EvT (bad _ rfl) (by rw [doB, if_neg (fun h => by rw [hk] at h; cases h.2)])
  | true =>
    refine Ev.step' ?_
    simp only [impl_DeltaDo.j0]
    obtain ⟨h1, h2⟩ := deltaB_len hk
    refine Ev.negf (by simp) (EvT (implDo_ev c d h2 (by omega) _ 0 [] (by omega) rfl (by simp) (by simp)) ?_)
    rw [doB, if_pos ⟨c, hk⟩, List.drop_zero]
theorem specDeltaDo_ev (base : Tx) (d : List Dl) (hb : Sm base) (hd : SmD d) : Ev (fun k => spec_DeltaDo.f k base d) (doB base d) := by
  unfold spec_DeltaDo.f spec_l13Do.f
  refine Ev.bind (specText_ev base hb) (Ev.ite (fun c => Ev.bind (specOk_ev d hd) (Ev.ite (fun c2 => ?_) (fun c2 => EvT (Ev.now _) (by rw [doB, if_neg (fun h => c2 h.2)])))) (fun c => EvT (Ev.now _) (by rw [doB, if_neg (fun h => c h.1)])))
  obtain ⟨h1, h2⟩ := deltaB_len c2
  refine Ev.bind (specDo_ev c d h2 (by omega) _ 0 [] (by omega) rfl (by simp) (by simp)) (EvT (Ev.now _) ?_)
  rw [doB, if_pos ⟨c, c2⟩, List.drop_zero]
def ofB (a b : Tx) : List Dl := if textB a = true ∧ textB b = true then dOf a b else []
theorem implDeltaOf_ev (a b : Tx) (ha : Sm a) (hb : Sm b) : Ev (fun k => impl_DeltaOf.f k a b) (ofB a b) := by
  unfold impl_DeltaOf.f
  refine Ev.bind (implText_ev a ha) (Ev.ite (fun c => Ev.bind (implText_ev b hb) (Ev.ite (fun c2 => ?_) (fun c2 => EvT (Ev.now _) (by rw [ofB, if_neg (fun h => c2 h.2)])))) (fun c => EvT (Ev.now _) (by rw [ofB, if_neg (fun h => c h.1)])))
  have l1 := textB_len c
  have l2 := textB_len c2
  exact Ev.bind (implOf_ev (by omega) (by omega)) (EvT (Ev.now _) (by rw [ofB, if_pos ⟨c, c2⟩]))
theorem specDeltaOf_ev (a b : Tx) (ha : Sm a) (hb : Sm b) : Ev (fun k => spec_DeltaOf.f k a b) (ofB a b) := by
  unfold spec_DeltaOf.f
  refine Ev.bind (specText_ev a ha) (Ev.ite (fun c => Ev.bind (specText_ev b hb) (Ev.ite (fun c2 => ?_) (fun c2 => EvT (Ev.now _) (by rw [ofB, if_neg (fun h => c2 h.2)])))) (fun c => EvT (Ev.now _) (by rw [ofB, if_neg (fun h => c h.1)])))
  have l1 := textB_len c
  have l2 := textB_len c2
  exact Ev.bind (specOf_ev (by omega) (by omega)) (EvT (Ev.now _) (by rw [ofB, if_pos ⟨c, c2⟩]))
theorem smDelta0_refl (d : List Dl) (hd : SmD d) : ∀ (n i : Nat), i ≤ d.length → d.length - i = n → Ev (fun k => laws_smDelta.l0 k d d i) true
  | 0, i, hi, hn => by
    refine Ev.step' ?_
    simp only [laws_smDelta.l0]
    exact Ev.negf (by omega) (Ev.now _)
  | n + 1, i, hi, hn => by
    have h : i < d.length := by omega
    have h2 := hd.1
    refine Ev.step' ?_
    simp only [laws_smDelta.l0, rdD h, w64_succ i (by omega)]
    exact Ev.posf (by omega) (Ev.posf (by omega) (Ev.posf (by omega) (Ev.posf trivial (Ev.posf trivial (Ev.bind (smTexts_refl _ (by have := (hd.2 _ (List.getElem_mem h)).1; omega)) (Ev.posf rfl (smDelta0_refl d hd n (i + 1) (by omega) (by omega))))))))
theorem smDelta_refl (d : List Dl) (hd : SmD d) : Ev (fun k => laws_smDelta.f k d d) true := by
  unfold laws_smDelta.f
  exact Ev.posf rfl (smDelta0_refl d hd _ 0 (by omega) rfl)
/-- A text's delta is ok, and not long. -/
theorem dOf_ok {a b : Tx} (ha : textB a = true) (hb : textB b = true) : deltaB (dOf a b) = true := by
  obtain ⟨h1, h2⟩ := dOf_right a b
  have hla := textB_len ha
  have hlb := textB_len hb
  have hlen := ap_len h2
  rw [h1] at hlen
  simp only [deltaB, Bool.and_eq_true, decide_eq_true_eq, List.all_eq_true]
  refine ⟨by omega, fun x hx => ?_⟩
  have hx2 : ∀ s ∈ x.f2, lineB s = true := fun s hs => by
    have : s ∈ b := by rw [← h1]; exact mem_ap hx hs
    simp only [textB, Bool.and_eq_true, List.all_eq_true] at hb
    exact hb.2 s this
  have hx3 : x.f2.length ≤ b.length := by
    have : (seg a x).length ≤ (ap a (dOf a b)).length := by
      obtain ⟨p, q, e⟩ := List.append_of_mem hx
      rw [e]
      simp [ap]
      omega
    rw [h1] at this
    have := (piece_len (h2 x hx)).2.1
    omega
  rcases h2 x hx with ⟨g1, g2, g3, g4⟩ | ⟨g1, g2, g3⟩
  · simp [pieceB, pB, g4]
    exact ⟨⟨⟨g1, g2⟩, by omega⟩, by omega⟩
  · have : textB x.f2 = true := by
      simp only [textB, Bool.and_eq_true, decide_eq_true_eq, List.all_eq_true]
      exact ⟨by omega, hx2⟩
    simp [pieceB, pB, g1, g2, this]
    omega
theorem doGo_ap {base : Tx} : ∀ (d : List Dl) (acc : Tx), (∀ x ∈ d, Piece base x) → doGo base d acc = some (acc ++ ap base d)
  | [], acc, h => by simp [doGo, ap]
  | x :: d, acc, h => by
    have := (piece_len (h x List.mem_cons_self)).2.2.2.2
    rw [doGo, if_neg (by omega), doGo_ap d _ (fun y hy => h y (List.mem_cons_of_mem _ hy))]
    simp [ap]
theorem doB_of {a b : Tx} (ha : textB a = true) (hb : textB b = true) : doB a (dOf a b) = (b, true) := by
  obtain ⟨h1, h2⟩ := dOf_right a b
  rw [doB, if_pos ⟨ha, dOf_ok ha hb⟩, doGo_ap _ _ h2, h1]
  simp [fin, hb]
/-- A longer base makes the same. -/
theorem doGo_more {base more : Tx} : ∀ (d : List Dl) (acc x : Tx), (∀ y ∈ d, pieceB y = true) → doGo base d acc = some x → doGo (base ++ more) d acc = some x
  | [], acc, x, h, e => e
  | y :: d, acc, x, h, e => by
    obtain ⟨p1, p2, _⟩ := piece_ok (h y List.mem_cons_self)
    unfold doGo at e ⊢
    by_cases c : y.f0 + y.f1 > base.length
    · rw [if_pos c] at e; cases e
    · rw [if_neg c] at e
      rw [if_neg (by simp; omega)]
      have : seg (base ++ more) y = seg base y := by
        unfold seg
        rw [List.take_append_of_le_length (by omega)]
      rw [this]
      exact doGo_more d _ x (fun z hz => h z (List.mem_cons_of_mem _ hz)) e
end Go.Proofs.Ytfnhjaiioojbkaa.Q
end
