/- A part of the proof of FnPackOf: functions of the program, the reference and the law, each with what its call comes to. Conditions: those that each theorem names. -/
import Derived.Test.YtfnhjaiioojbkaaMPackOf0
import Derived.Test.YtfnhjaiioojbkaaMPackOf1
import Derived.Test.YtfnhjaiioojbkaaMPackOf2
import Derived.Test.YtfnhjaiioojbkaaMPackOf3
set_option linter.unusedVariables false
set_option linter.unusedSimpArgs false
section
namespace Go.Proofs.Ytfnhjaiioojbkaa.Q
open Go.RowKit Go.Proofs.YtfnhjaiioojbkaaW.PrintWords Go.Proofs.YtfnhjaiioojbkaaW.PrintLast Go.Proofs.YtfnhjaiioojbkaaW.PrintMore
attribute [local go_sem] max2_int min2_int max_two min_two max_three min_three max_four min_four   -- for this text's walks alone
set_option linter.unusedVariables false
set_option linter.unusedSimpArgs false
def spec_DrawPackOf.f (k : Nat) (l0 : List Int) : Option ((List (List ByteArray))) := (spec_l30Open.f l0).bind fun bt843 => ((spec_l30Texts.f k bt843.1 bt843.2).bind fun bt846 => ((spec_l30Rd_pick.f k bt843.1 bt846.2 10).bind fun bt850 => (if bt850.1 = 0 then ((spec_l30AnyText.f k bt843.1 bt850.2).bind fun bt852 => (if bt846.1.length < 5864062014805 then (some (bt846.1 ++ [bt852.1])) else (none))) else (some bt846.1))))
theorem spec_DrawPackOf.mono : ∀ a0 k, LeO (spec_DrawPackOf.f k a0) (spec_DrawPackOf.f (k + 1) a0) := by
 intro a0 k
 unfold spec_DrawPackOf.f
 repeat' first
  | (with_reducible exact spec_l30AnyText.mono _ _ _)
  | (with_reducible exact spec_l30Rd_pick.mono _ _ _ _)
  | (with_reducible exact spec_l30Texts.mono _ _ _)
  | (with_reducible exact LeO.refl _)
  | (with_reducible exact LeO.none _)
  | (with_reducible refine LeO.ite ?_ ?_)
  | (with_reducible refine LeO.bind ?_ (fun _ => ?_))
  | exact spec_l30AnyText.mono _ _ _
  | exact spec_l30Rd_pick.mono _ _ _ _
  | exact spec_l30Texts.mono _ _ _
  | exact LeO.none _
  | refine LeO.ite ?_ ?_
  | refine LeO.bind ?_ (fun _ => ?_)
set_option maxHeartbeats 8000000 in
set_option maxRecDepth 100000 in
theorem spec_DrawPackOf.calls (k : Nat) (A0 : Option Addr) (c0 : Nat) (l0 : List Int) (r : List (List ByteArray)) (w : World) (hr0 : Kd.C (Kd.int .u8) w A0 l0.length l0) (hc0 : l0.length ≤ c0) (h : spec_DrawPackOf.f k l0 = some r) :
 Calls Try.prog 46 #[.slice A0 l0.length c0] w fun e w' => ∃ v0_ : Value, e = .returned (v0_) ∧ Kd.S (Kd.slice 9 Kd.string) 30 w' w.heap.size (fun _ => True) v0_ r ∧ Below w.heap.size w w' := by
 have HR0 := Aside0.mk hr0; have HC0 := Aside0.mk hc0; clear hr0 hc0; have HB := Aside0.mk (Below.refl w.heap.size w); have H : ((spec_l30Open.f l0).bind fun bt843 => ((spec_l30Texts.f k bt843.1 bt843.2).bind fun bt846 => ((spec_l30Rd_pick.f k bt843.1 bt846.2 10).bind fun bt850 => (if bt850.1 = 0 then ((spec_l30AnyText.f k bt843.1 bt850.2).bind fun bt852 => (if bt846.1.length < 5864062014805 then (some (bt846.1 ++ [bt852.1])) else (none))) else (some bt846.1))))) = some r := h; clear h; replace H := Option.bind_eq_some_iff.mp H; obtain ⟨⟨t843, t844⟩, A20, H⟩ := H; replace H : ((spec_l30Texts.f k t843 t844).bind fun bt846 => ((spec_l30Rd_pick.f k t843 bt846.2 10).bind fun bt850 => (if bt850.1 = 0 then ((spec_l30AnyText.f k t843 bt850.2).bind fun bt852 => (if bt846.1.length < 5864062014805 then (some (bt846.1 ++ [bt852.1])) else (none))) else (some bt846.1)))) = some r := H; have A2 := Aside0.mk A20; clear A20; replace H := Option.bind_eq_some_iff.mp H; obtain ⟨⟨t846, t849⟩, A30, H⟩ := H; replace H : ((spec_l30Rd_pick.f k t843 t849 10).bind fun bt850 => (if bt850.1 = 0 then ((spec_l30AnyText.f k t843 bt850.2).bind fun bt852 => (if t846.length < 5864062014805 then (some (t846 ++ [bt852.1])) else (none))) else (some t846))) = some r := H; have A3 := Aside0.mk A30; clear A30; replace H := Option.bind_eq_some_iff.mp H; obtain ⟨⟨t850, t851⟩, A40, H⟩ := H; replace H : (if t850 = 0 then ((spec_l30AnyText.f k t843 t851).bind fun bt852 => (if t846.length < 5864062014805 then (some (t846 ++ [bt852.1])) else (none))) else (some t846)) = some r := H; have A4 := Aside0.mk A40; clear A40; by_cases c5 : t850 = 0
 ·rw [if_pos c5] at H; have c5b0 : (t850 == 0) = true := beq_iff_eq.mpr c5; have c5b1 : (t850 != 0) = false := bne_eq_false_iff_eq.mpr c5; clear c5; replace H := Option.bind_eq_some_iff.mp H; obtain ⟨⟨t852, t855⟩, A60, H⟩ := H; replace H : (if t846.length < 5864062014805 then (some (t846 ++ [t852])) else (none)) = some r := H; have A6 := Aside0.mk A60; clear A60; by_cases c7 : t846.length < 5864062014805
  ·rw [if_pos c7] at H; have LMc7 := Aside0.mk c7; clear c7; obtain ⟨y856, hy856⟩ : ∃ y_ : List (List ByteArray), y_ = (t846 ++ [t852]) := ⟨_, rfl⟩; (replace H : (some y856) = some r := by first | (rw [hy856]; with_reducible exact H) | (have H2_ := (Option.bind_some _ _).symm.trans H; rw [hy856]; with_reducible exact H2_) | (have H2_ := (Option.bind_some _ _).symm.trans H; with_reducible exact H2_) | with_reducible exact H | (rw [hy856]; exact H) | exact H); have Ny856 := Aside0.mk hy856; clear hy856; obtain rfl := Option.some.inj H; go_enter Try.func46, Try.ntmps46; go_wp2_with (first | ((with_reducible refine gate_callee (f := 78) rfl ?_); refine goesL_ (some 6) rfl rfl Try.func78 (by kernel_rfl) rfl #[.slice A0 l0.length c0] rfl (by (try simp only [List.map_toArray, List.map_cons, List.map_nil]); first | done | rfl | (simp only [List.length_drop, List.length_take]; rfl)) ?_; (with_reducible refine (spec_l30Open.calls _ _ l0 t843 t844 w _ ?side1 ?side2 ?side3 A2.out).mono ?_); (case side1 => repeat (first | (with_reducible first | exact HB.out | apply below_alloc | apply pw_below_drewN | apply below_drew1) | exact HB.out)); (case side2 => exact HR0.out); (case side3 => exact HC0.out); rintro e w8 ⟨g845, rfl, hi, hb, hb2⟩; refine ⟨_, rfl, ?_⟩; have n0_ := Aside0.mk (hb); have n1_ := Aside0.mk (hi); clear HB; have HB := n0_; have HI845 := n1_; clear n0_ n1_; (try clear hb); (try clear hb2); (try clear hk); (try clear hi)) | ((with_reducible refine gate_callee (f := 91) rfl ?_); refine goesL_ (some 8) rfl rfl Try.func91 (by kernel_rfl) rfl #[.pointer (some ⟨g845, 0, none⟩)] rfl (by (try simp only [List.map_toArray, List.map_cons, List.map_nil]); first | done | rfl | (simp only [List.length_drop, List.length_take]; rfl)) ?_; (with_reducible refine (spec_l30Texts.calls k g845 t843 t844 t846 t849 w _ ?side1 ?side2 A3.out).mono ?_); (case side1 => repeat (first | (with_reducible first | exact HI845.out | apply IsS106.alloc | apply IsS106.drewN | apply IsS106.drew | apply IsS106.set_1) | exact HI845.out)); (case side2 => repeat (first | (with_reducible first | exact HB.out | apply below_alloc | apply pw_below_drewN | apply below_drew1 | refine below_set ?_ (IsS106.ge HI845.out)) | exact HB.out)); rintro e w9 ⟨v847, rfl, ho0, hi, hb, hk⟩; refine ⟨_, rfl, ?_⟩; have n0_ := Aside0.mk (Kd.S_lower ho0 (below_size (by repeat (first | (with_reducible first | exact HB.out | apply below_alloc | apply pw_below_drewN | apply below_drew1 | refine below_set ?_ (IsS106.ge HI845.out)) | exact HB.out)))); have n1_ := Aside0.mk (hb); have n2_ := Aside0.mk (hi); clear HB; clear HI845; have HO848 := n0_; have HB := n1_; have HI845 := n2_; clear n0_ n1_ n2_; (try clear hb); (try clear hb2); (try clear hk); (try clear hi); (try clear ho0)) | ((with_reducible refine gate_callee (f := 81) rfl ?_); refine goesL_ (some 10) rfl rfl Try.func81 (by kernel_rfl) rfl #[.pointer (some ⟨g845, 0, none⟩), .int .i64 10] rfl (by (try simp only [List.map_toArray, List.map_cons, List.map_nil]); first | done | rfl | (simp only [List.length_drop, List.length_take]; rfl)) ?_; (with_reducible refine (spec_l30Rd_pick.calls k g845 t843 t849 10 t850 t851 w _ ?side1 ?side2 A4.out).mono ?_); (case side1 => repeat (first | (with_reducible first | exact HI845.out | apply IsS106.alloc | apply IsS106.drewN | apply IsS106.drew | apply IsS106.set_1) | exact HI845.out)); (case side2 => repeat (first | (with_reducible first | exact HB.out | apply below_alloc | apply pw_below_drewN | apply below_drew1 | refine below_set ?_ (IsS106.ge HI845.out)) | exact HB.out)); rintro e w10 ⟨rfl, hi, hb, hk⟩; refine ⟨_, rfl, ?_⟩; have n0_ := Aside0.mk (Kd.S_mono (Kd.S_keep (IsS106.apartS (show IsS106 w _ g845 t843 t849 from by repeat (first | (with_reducible first | exact HI845.out | apply IsS106.alloc | apply IsS106.drewN | apply IsS106.drew | apply IsS106.set_1) | exact HI845.out)) (by (with_reducible repeat (first | apply Kd.S_alloc | apply Kd.S_drewN | apply Kd.S_drew)); exact HO848.out) (by decide)) hk (fun _ h => h.2)) (fun _ h => h.1)); have n1_ := Aside0.mk (hb); have n2_ := Aside0.mk (hi); clear HO848; clear HB; clear HI845; have HO848 := n0_; have HB := n1_; have HI845 := n2_; clear n0_ n1_ n2_; (try clear hb); (try clear hb2); (try clear hk); (try clear hi)) | ((with_reducible refine gate_callee (f := 79) rfl ?_); refine goesL_ (some 14) rfl rfl Try.func79 (by kernel_rfl) rfl #[.pointer (some ⟨g845, 0, none⟩)] rfl (by (try simp only [List.map_toArray, List.map_cons, List.map_nil]); first | done | rfl | (simp only [List.length_drop, List.length_take]; rfl)) ?_; (with_reducible refine (spec_l30AnyText.calls k g845 t843 t851 t852 t855 w _ ?side1 ?side2 A6.out).mono ?_); (case side1 => repeat (first | (with_reducible first | exact HI845.out | apply IsS106.alloc | apply IsS106.drewN | apply IsS106.drew | apply IsS106.set_1) | exact HI845.out)); (case side2 => repeat (first | (with_reducible first | exact HB.out | apply below_alloc | apply pw_below_drewN | apply below_drew1 | refine below_set ?_ (IsS106.ge HI845.out)) | exact HB.out)); rintro e w11 ⟨v853, rfl, ho0, hi, hb, hk⟩; refine ⟨_, rfl, ?_⟩; have n0_ := Aside0.mk (Kd.S_mono (Kd.S_told (Kd.S_oldK (IsS106.apartS (show IsS106 w _ g845 t843 t851 from by repeat (first | (with_reducible first | exact HI845.out | apply IsS106.alloc | apply IsS106.drewN | apply IsS106.drew | apply IsS106.set_1) | exact HI845.out)) (by (with_reducible repeat (first | apply Kd.S_alloc | apply Kd.S_drewN | apply Kd.S_drew)); exact HO848.out) (by decide)) hk) (Kd.R_base ho0)) (fun _ h_ => h_.1)); have n1_ := Aside0.mk (Kd.R_lower ho0 (below_size (by repeat (first | (with_reducible first | exact HB.out | apply below_alloc | apply pw_below_drewN | apply below_drew1 | refine below_set ?_ (IsS106.ge HI845.out)) | exact HB.out)))); have n2_ := Aside0.mk (hb); have n3_ := Aside0.mk (hi); clear HO848; clear HB; clear HI845; have HO848 := n0_; have HO854 := n1_; have HB := n2_; have HI845 := n3_; clear n0_ n1_ n2_ n3_; (try clear hb); (try clear hb2); (try clear hk); (try clear hi); (try clear ho0); obtain ⟨Ao13, co13, eo13⟩ := Kd.R_slice HO854.out; subst eo13) | ((with_reducible refine gate_builtin (b := .append) (xs := #[.tmp 12, .tmp 15]) rfl ?_); at_builtin; refine Kd.S_append (Kd.slice 9 Kd.string) (w0 := w) w.heap.size rfl (.tmp 12) (.tmp 15) 57 30 (.slice none 0 0) 24 rfl Try.underlying57 info30 rfl (by decide) (by omega) v847 t846 t852 [.slice Ao13 t852.length co13] (fun _ => True) (fun k_ => some k_ = (.slice Ao13 t852.length co13 : Value).ownBlock) rfl rfl ?aP (fun k_ hk_ => ((Kd.R_mono (ok' := fun k_ => ((fun _ => True)) k_ ∧ some k_ ≠ (v847 : Value).ownBlock) (Kd.R_apart' (HO854.out) (Kd.S_typed HO848.out) (by decide)) (fun k_ hk => ⟨trivial, hk.2⟩))).1 k_ hk_.symm) ?aF ?aO ?aB ?aS ?aL ?_; (case aP => exact Kd.M_row (Kd.R_mono (Kd.R_tight rfl (Kd.R_mono (ok' := fun k_ => ((fun _ => True)) k_ ∧ some k_ ≠ (v847 : Value).ownBlock) (Kd.R_apart' (HO854.out) (Kd.S_typed HO848.out) (by decide)) (fun k_ hk => ⟨trivial, hk.2⟩))) (fun _ h_ => h_))); (case aB => exact (by repeat (first | (with_reducible first | exact HB.out | apply below_alloc | apply pw_below_drewN | apply below_drew1 | refine below_set ?_ (IsS106.ge HI845.out)) | exact HB.out))); (case aF => exact (fun _ _ => trivial)); (case aO => exact (by (with_reducible repeat (first | apply Kd.S_alloc | apply Kd.S_drewN | apply Kd.S_drew)); exact Kd.S_mono HO848.out (fun k_ hk => ⟨trivial, fun e_ => hk.2 e_⟩))); (case aS => exact (below_size (by repeat (first | (with_reducible first | exact HB.out | apply below_alloc | apply pw_below_drewN | apply below_drew1 | refine below_set ?_ (IsS106.ge HI845.out)) | exact HB.out)))); (case aL => have := LMc7.out; omega); intro v857 w12 ho hb hg hat; rw [← Ny856.out] at ho; have n0_ := Aside0.mk (IsS106.grown (by repeat (first | (with_reducible first | exact HI845.out | apply IsS106.alloc | apply IsS106.drewN | apply IsS106.drew | apply IsS106.set_1) | exact HI845.out)) hg (IsS106.own_neS HI845.out HO848.out (by decide))); have n1_ := Aside0.mk (hb); have n2_ := Aside0.mk (ho); clear HI845; clear HB; clear HO848; clear HO854; have HI845 := n0_; have HB := n1_; have HO858 := n2_; clear n0_ n1_ n2_; clear ho hb hg hat))
   go_ret; exact ⟨_, by first | rfl | (simp <;> rfl) | (simp [*] <;> rfl), by (with_reducible repeat (first | apply Kd.S_alloc | apply Kd.S_drewN | apply Kd.S_drew)); exact HO858.out, by repeat (first | (with_reducible first | exact HB.out | apply below_alloc | apply pw_below_drewN | apply below_drew1 | refine below_set ?_ (IsS106.ge HI845.out)) | exact HB.out)⟩
  ·rw [if_neg c7] at H; exact absurd H (by simp)
 ·rw [if_neg c5] at H; have c5b0 : (t850 == 0) = false := beq_eq_false_iff_ne.mpr c5; have c5b1 : (t850 != 0) = true := bne_iff_ne.mpr c5; obtain rfl := Option.some.inj H; go_enter Try.func46, Try.ntmps46; go_wp2_with (first | ((with_reducible refine gate_callee (f := 78) rfl ?_); refine goesL_ (some 6) rfl rfl Try.func78 (by kernel_rfl) rfl #[.slice A0 l0.length c0] rfl (by (try simp only [List.map_toArray, List.map_cons, List.map_nil]); first | done | rfl | (simp only [List.length_drop, List.length_take]; rfl)) ?_; (with_reducible refine (spec_l30Open.calls _ _ l0 t843 t844 w _ ?side1 ?side2 ?side3 A2.out).mono ?_); (case side1 => repeat (first | (with_reducible first | exact HB.out | apply below_alloc | apply pw_below_drewN | apply below_drew1) | exact HB.out)); (case side2 => exact HR0.out); (case side3 => exact HC0.out); rintro e w14 ⟨g845, rfl, hi, hb, hb2⟩; refine ⟨_, rfl, ?_⟩; have n0_ := Aside0.mk (hb); have n1_ := Aside0.mk (hi); clear HB; have HB := n0_; have HI845 := n1_; clear n0_ n1_; (try clear hb); (try clear hb2); (try clear hk); (try clear hi)) | ((with_reducible refine gate_callee (f := 91) rfl ?_); refine goesL_ (some 8) rfl rfl Try.func91 (by kernel_rfl) rfl #[.pointer (some ⟨g845, 0, none⟩)] rfl (by (try simp only [List.map_toArray, List.map_cons, List.map_nil]); first | done | rfl | (simp only [List.length_drop, List.length_take]; rfl)) ?_; (with_reducible refine (spec_l30Texts.calls k g845 t843 t844 t846 t849 w _ ?side1 ?side2 A3.out).mono ?_); (case side1 => repeat (first | (with_reducible first | exact HI845.out | apply IsS106.alloc | apply IsS106.drewN | apply IsS106.drew | apply IsS106.set_1) | exact HI845.out)); (case side2 => repeat (first | (with_reducible first | exact HB.out | apply below_alloc | apply pw_below_drewN | apply below_drew1 | refine below_set ?_ (IsS106.ge HI845.out)) | exact HB.out)); rintro e w15 ⟨v847, rfl, ho0, hi, hb, hk⟩; refine ⟨_, rfl, ?_⟩; have n0_ := Aside0.mk (Kd.S_lower ho0 (below_size (by repeat (first | (with_reducible first | exact HB.out | apply below_alloc | apply pw_below_drewN | apply below_drew1 | refine below_set ?_ (IsS106.ge HI845.out)) | exact HB.out)))); have n1_ := Aside0.mk (hb); have n2_ := Aside0.mk (hi); clear HB; clear HI845; have HO848 := n0_; have HB := n1_; have HI845 := n2_; clear n0_ n1_ n2_; (try clear hb); (try clear hb2); (try clear hk); (try clear hi); (try clear ho0)) | ((with_reducible refine gate_callee (f := 81) rfl ?_); refine goesL_ (some 10) rfl rfl Try.func81 (by kernel_rfl) rfl #[.pointer (some ⟨g845, 0, none⟩), .int .i64 10] rfl (by (try simp only [List.map_toArray, List.map_cons, List.map_nil]); first | done | rfl | (simp only [List.length_drop, List.length_take]; rfl)) ?_; (with_reducible refine (spec_l30Rd_pick.calls k g845 t843 t849 10 t850 t851 w _ ?side1 ?side2 A4.out).mono ?_); (case side1 => repeat (first | (with_reducible first | exact HI845.out | apply IsS106.alloc | apply IsS106.drewN | apply IsS106.drew | apply IsS106.set_1) | exact HI845.out)); (case side2 => repeat (first | (with_reducible first | exact HB.out | apply below_alloc | apply pw_below_drewN | apply below_drew1 | refine below_set ?_ (IsS106.ge HI845.out)) | exact HB.out)); rintro e w16 ⟨rfl, hi, hb, hk⟩; refine ⟨_, rfl, ?_⟩; have n0_ := Aside0.mk (Kd.S_mono (Kd.S_keep (IsS106.apartS (show IsS106 w _ g845 t843 t849 from by repeat (first | (with_reducible first | exact HI845.out | apply IsS106.alloc | apply IsS106.drewN | apply IsS106.drew | apply IsS106.set_1) | exact HI845.out)) (by (with_reducible repeat (first | apply Kd.S_alloc | apply Kd.S_drewN | apply Kd.S_drew)); exact HO848.out) (by decide)) hk (fun _ h => h.2)) (fun _ h => h.1)); have n1_ := Aside0.mk (hb); have n2_ := Aside0.mk (hi); clear HO848; clear HB; clear HI845; have HO848 := n0_; have HB := n1_; have HI845 := n2_; clear n0_ n1_ n2_; (try clear hb); (try clear hb2); (try clear hk); (try clear hi)))
  go_ret; exact ⟨_, by first | rfl | (simp <;> rfl) | (simp [*] <;> rfl), by (with_reducible repeat (first | apply Kd.S_alloc | apply Kd.S_drewN | apply Kd.S_drew)); exact HO848.out, by repeat (first | (with_reducible first | exact HB.out | apply below_alloc | apply pw_below_drewN | apply below_drew1 | refine below_set ?_ (IsS106.ge HI845.out)) | exact HB.out)⟩
end Go.Proofs.Ytfnhjaiioojbkaa.Q
end
section
namespace Go.Proofs.Ytfnhjaiioojbkaa.Q
open Go.RowKit Go.Proofs.YtfnhjaiioojbkaaW.PrintWords Go.Proofs.YtfnhjaiioojbkaaW.PrintLast Go.Proofs.YtfnhjaiioojbkaaW.PrintMore
attribute [local go_sem] max2_int min2_int max_two min_two max_three min_three max_four min_four   -- for this text's walks alone
set_option linter.unusedVariables false
set_option linter.unusedSimpArgs false
mutual
def impl_longestRun.l0 : Nat → List ByteArray → List ByteArray → Int → Int → Int → Int → Option (Int × Int)
 | 0, _, _, _, _, _, _ => none
 | k + 1, x0, x1, x6, x7, x11, x12 => if x12 < x11 then (impl_longestRun.l1 k x0 x1 x6 x7 x12 0 x11 x12) else (some (x6, x7))
def impl_longestRun.l1 : Nat → List ByteArray → List ByteArray → Int → Int → Int → Int → Int → Int → Option (Int × Int)
 | 0, _, _, _, _, _, _, _, _ => none
 | k + 1, x0, x1, x6, x7, x8, x9, x11, x12 => if (wrap64 (x8 + x9)) < (x0.length : Int) then (if x9 < (x1.length : Int) then (if 0 ≤ (wrap64 (x8 + x9)) then (if 0 ≤ x9 then (if (rdOf ByteArray.empty x0 (wrap64 (x8 + x9))).toList = (rdOf ByteArray.empty x1 x9).toList then (impl_longestRun.l1 k x0 x1 x6 x7 x8 (wrap64 (x9 + 1)) x11 x12) else (if x9 > x7 then (impl_longestRun.l0 k x0 x1 x8 x9 x11 (wrap64 (x12 + 1))) else (impl_longestRun.l0 k x0 x1 x6 x7 x11 (wrap64 (x12 + 1))))) else (none)) else (none)) else (if x9 > x7 then (impl_longestRun.l0 k x0 x1 x8 x9 x11 (wrap64 (x12 + 1))) else (impl_longestRun.l0 k x0 x1 x6 x7 x11 (wrap64 (x12 + 1))))) else (if x9 > x7 then (impl_longestRun.l0 k x0 x1 x8 x9 x11 (wrap64 (x12 + 1))) else (impl_longestRun.l0 k x0 x1 x6 x7 x11 (wrap64 (x12 + 1))))
end
def impl_longestRun.f (k : Nat) (l0 : List ByteArray) (l1 : List ByteArray) : Option (Int × Int) := impl_longestRun.l0 k l0 l1 0 0 (l0.length : Int) 0
theorem impl_longestRun.mono_l : ∀ k, (∀ y0 y1 y2 y3 y4 y5, LeO (impl_longestRun.l0 k y0 y1 y2 y3 y4 y5) (impl_longestRun.l0 (k + 1) y0 y1 y2 y3 y4 y5)) ∧ (∀ y0 y1 y2 y3 y4 y5 y6 y7, LeO (impl_longestRun.l1 k y0 y1 y2 y3 y4 y5 y6 y7) (impl_longestRun.l1 (k + 1) y0 y1 y2 y3 y4 y5 y6 y7))
 | 0 => ⟨fun _ _ _ _ _ _ r h => by simp [impl_longestRun.l0] at h, fun _ _ _ _ _ _ _ _ r h => by simp [impl_longestRun.l1] at h⟩
 | k + 1 => by
  obtain ⟨ih0, ih1⟩ := impl_longestRun.mono_l k; refine ⟨?_, ?_⟩
  ·intro y0 y1 y2 y3 y4 y5
   unfold impl_longestRun.l0
   repeat' first
   | (with_reducible exact ih0 _ _ _ _ _ _)
   | (with_reducible exact ih1 _ _ _ _ _ _ _ _)
   | (with_reducible exact LeO.refl _)
   | (with_reducible exact LeO.none _)
   | (with_reducible refine LeO.ite ?_ ?_)
   | (with_reducible refine LeO.bind ?_ (fun _ => ?_))
   | exact ih0 _ _ _ _ _ _
   | exact ih1 _ _ _ _ _ _ _ _
   | exact LeO.none _
   | refine LeO.ite ?_ ?_
   | refine LeO.bind ?_ (fun _ => ?_)
  ·intro y0 y1 y2 y3 y4 y5 y6 y7
   unfold impl_longestRun.l1
   repeat' first
   | (with_reducible exact ih0 _ _ _ _ _ _)
   | (with_reducible exact ih1 _ _ _ _ _ _ _ _)
   | (with_reducible exact LeO.refl _)
   | (with_reducible exact LeO.none _)
   | (with_reducible refine LeO.ite ?_ ?_)
   | (with_reducible refine LeO.bind ?_ (fun _ => ?_))
   | exact ih0 _ _ _ _ _ _
   | exact ih1 _ _ _ _ _ _ _ _
   | exact LeO.none _
   | refine LeO.ite ?_ ?_
   | refine LeO.bind ?_ (fun _ => ?_)
theorem impl_longestRun.mono : ∀ a0 a1 k, LeO (impl_longestRun.f k a0 a1) (impl_longestRun.f (k + 1) a0 a1) := by
 intro a0 a1 k; obtain ⟨ih0, ih1⟩ := impl_longestRun.mono_l k
 unfold impl_longestRun.f
 repeat' first
  | (with_reducible exact ih0 _ _ _ _ _ _)
  | (with_reducible exact ih1 _ _ _ _ _ _ _ _)
  | (with_reducible exact LeO.refl _)
  | (with_reducible exact LeO.none _)
  | (with_reducible refine LeO.ite ?_ ?_)
  | (with_reducible refine LeO.bind ?_ (fun _ => ?_))
  | exact ih0 _ _ _ _ _ _
  | exact ih1 _ _ _ _ _ _ _ _
  | exact LeO.none _
  | refine LeO.ite ?_ ?_
  | refine LeO.bind ?_ (fun _ => ?_)
set_option maxHeartbeats 8000000 in
set_option maxRecDepth 100000 in
theorem impl_longestRun.calls (k : Nat) (A0 : Option Addr) (c0 : Nat) (l0 : List ByteArray) (A1 : Option Addr) (c1 : Nat) (l1 : List ByteArray) (r1 : Int) (r2 : Int) (w : World) (hr0 : Kd.C Kd.string w A0 l0.length l0) (hc0 : l0.length ≤ c0) (hr1 : Kd.C Kd.string w A1 l1.length l1) (hc1 : l1.length ≤ c1) (h : impl_longestRun.f k l0 l1 = some (r1, r2)) :
 Calls Try.prog 102 #[.slice A0 l0.length c0, .slice A1 l1.length c1] w fun e w' => e = .returned (.tuple #[.int .i64 r1, .int .i64 r2]) ∧ Drawn0 w w' := by
 have HR0 := Aside0.mk hr0; have HC0 := Aside0.mk hc0; clear hr0 hc0; have HR1 := Aside0.mk hr1; have HC1 := Aside0.mk hc1; clear hr1 hc1; have H : (impl_longestRun.l0 k l0 l1 0 0 (l0.length : Int) 0) = some (r1, r2) := h; clear h; have H' := Aside0.mk H; clear H; go_enter Try.func102, Try.ntmps102; go_wp2; (repeat (go_quiet (fail); try go_wp2)); go_loopg [6, 7, 12] k (fun kq v6 v7 v12 w' => ∃ (x6_1 : Int) (x7_1 : Int) (x12_1 : Int), v6 = .int .i64 x6_1 ∧ v7 = .int .i64 x7_1 ∧ v12 = .int .i64 x12_1 ∧ Aside0 (impl_longestRun.l0 kq l0 l1 x6_1 x7_1 (l0.length : Int) x12_1 = some (r1, r2)) ∧ Aside0 (kq ≤ k) ∧ Drawn0 w w')
 case atStart => exact ⟨(0), (0), (0), (by first | rfl | (simp; done) | (simp [*]; done)), (by first | rfl | (simp; done) | (simp [*]; done)), (by first | rfl | (simp; done) | (simp [*]; done)), H', ⟨Nat.le_refl _⟩, by repeat (first | exact Drawn0.refl _ | apply Drawn0.step)⟩
 case round =>
  clear H'; (try clear c1); (try clear p2); obtain ⟨x6_1, x7_1, x12_1, rfl, rfl, rfl, HA, HK1, ⟨m1, rfl⟩⟩ := hrel
  cases gk with
  | zero => exact absurd HA.out (by simp [impl_longestRun.l0])
  | succ k1 =>
   have H := HA.out; clear HA; simp only [impl_longestRun.l0] at H; by_cases c3 : x12_1 < (l0.length : Int)
   ·rw [if_pos c3] at H; have c3b0 : decide (x12_1 < (l0.length : Int)) = true := decide_eq_true c3; clear c3; have H' := Aside0.mk H; clear H; go_wp2; (repeat (go_quiet (fail); try go_wp2)); go_loopg [9] k1 (fun kq v9 w' => ∃ (x9_2 : Int), v9 = .int .i64 x9_2 ∧ Aside0 (impl_longestRun.l1 kq l0 l1 x6_1 x7_1 x12_1 x9_2 (l0.length : Int) x12_1 = some (r1, r2)) ∧ Aside0 (kq ≤ k1) ∧ Drawn0 w w')
    case atStart => exact ⟨(0), (by first | rfl | (simp; done) | (simp [*]; done)), H', ⟨Nat.le_refl _⟩, by repeat (first | exact Drawn0.refl _ | apply Drawn0.step)⟩
    case round =>
     clear H'; (try clear c1); (try clear p2); (try clear c3); (try clear c3b0); (try clear p2); obtain ⟨x9_2, rfl, HA, HK2, ⟨m2, rfl⟩⟩ := hrel
     cases gk with
     | zero => exact absurd HA.out (by simp [impl_longestRun.l1])
     | succ k2 =>
      have H := HA.out; clear HA; simp only [impl_longestRun.l1] at H; by_cases c4 : (wrap64 (x12_1 + x9_2)) < (l0.length : Int)
      ·rw [if_pos c4] at H; have c4b0 : decide ((wrap64 (x12_1 + x9_2)) < (l0.length : Int)) = true := decide_eq_true c4; clear c4; by_cases c5 : x9_2 < (l1.length : Int)
       ·rw [if_pos c5] at H; have c5b0 : decide (x9_2 < (l1.length : Int)) = true := decide_eq_true c5; clear c5; obtain ⟨ji6, hji6⟩ : ∃ j_ : Int, (wrap64 (x12_1 + x9_2)) = j_ := ⟨_, rfl⟩; (replace H : (if 0 ≤ (ji6) then (if 0 ≤ x9_2 then (if (rdOf ByteArray.empty l0 (ji6)).toList = (rdOf ByteArray.empty l1 x9_2).toList then (impl_longestRun.l1 k2 l0 l1 x6_1 x7_1 x12_1 (wrap64 (x9_2 + 1)) (l0.length : Int) x12_1) else (if x9_2 > x7_1 then (impl_longestRun.l0 k2 l0 l1 x12_1 x9_2 (l0.length : Int) (wrap64 (x12_1 + 1))) else (impl_longestRun.l0 k2 l0 l1 x6_1 x7_1 (l0.length : Int) (wrap64 (x12_1 + 1))))) else (none)) else (none)) = some (r1, r2) := by first | (rw [hji6] at H; exact H) | (simp only [hji6] at H ⊢; exact H))
        (try rw [hji6] at c4b0)
        have hji6w : (IntKind.i64.wrap (x12_1 + x9_2)) = ji6 := (i64_w _).trans hji6; by_cases c7 : 0 ≤ (ji6)
        ·rw [if_pos c7] at H; have c7b0 : decide (0 ≤ (ji6)) = true := decide_eq_true c7; clear c7; by_cases c8 : 0 ≤ x9_2
         ·rw [if_pos c8] at H; have c8b0 : decide (0 ≤ x9_2) = true := decide_eq_true c8; clear c8; by_cases c9 : (rdOf ByteArray.empty l0 (ji6)).toList = (rdOf ByteArray.empty l1 x9_2).toList
          ·rw [if_pos c9] at H; have c9b0 : ((rdOf ByteArray.empty l0 (ji6)).toList == (rdOf ByteArray.empty l1 x9_2).toList) = true := beq_iff_eq.mpr c9; have c9b1 : ((rdOf ByteArray.empty l0 (ji6)).toList != (rdOf ByteArray.empty l1 x9_2).toList) = false := bne_eq_false_iff_eq.mpr c9; clear c9; have H' := Aside0.mk H; clear H; have p328 : 0 ≤ ((ji6) : Int) := of_decide_eq_true (by assumption); have q328 : (ji6) < (l0.length : Int) := of_decide_eq_true (by assumption); obtain ⟨ad328, e328, hx328_0⟩ := Kd.at_string HR0.out (ji6) p328 q328; cases e328; replace p328 := eq_true p328; replace q328 := eq_true q328; have p329 : 0 ≤ (x9_2 : Int) := of_decide_eq_true (by assumption); have q329 : x9_2 < (l1.length : Int) := of_decide_eq_true (by assumption); obtain ⟨ad329, e329, hx329_0⟩ := Kd.at_string HR1.out x9_2 p329 q329; cases e329; replace p329 := eq_true p329; replace q329 := eq_true q329; go_wp2; (repeat (go_quiet (fail); try go_wp2)); go_roundg k2
           case measure => have := HK1.out; have := HK2.out; omega
           case rel => exact ⟨(wrap64 (x9_2 + 1)), (by first | rfl | (simp; done) | (simp [*]; done)), H', ⟨by have := HK1.out; have := HK2.out; omega⟩, by repeat (first | exact Drawn0.refl _ | apply Drawn0.step)⟩
          ·rw [if_neg c9] at H; have c9b0 : ((rdOf ByteArray.empty l0 (ji6)).toList == (rdOf ByteArray.empty l1 x9_2).toList) = false := beq_eq_false_iff_ne.mpr c9; have c9b1 : ((rdOf ByteArray.empty l0 (ji6)).toList != (rdOf ByteArray.empty l1 x9_2).toList) = true := bne_iff_ne.mpr c9; by_cases c10 : x9_2 > x7_1
           ·rw [if_pos c10] at H; have c10b0 : decide (x7_1 < x9_2) = true := decide_eq_true c10; clear c10; have H' := Aside0.mk H; clear H; have p328 : 0 ≤ ((ji6) : Int) := of_decide_eq_true (by assumption); have q328 : (ji6) < (l0.length : Int) := of_decide_eq_true (by assumption); obtain ⟨ad328, e328, hx328_0⟩ := Kd.at_string HR0.out (ji6) p328 q328; cases e328; replace p328 := eq_true p328; replace q328 := eq_true q328; have p329 : 0 ≤ (x9_2 : Int) := of_decide_eq_true (by assumption); have q329 : x9_2 < (l1.length : Int) := of_decide_eq_true (by assumption); obtain ⟨ad329, e329, hx329_0⟩ := Kd.at_string HR1.out x9_2 p329 q329; cases e329; replace p329 := eq_true p329; replace q329 := eq_true q329; go_wp2; (repeat (go_quiet (fail); try go_wp2)); go_roundg k2
            case measure => have := HK1.out; have := HK2.out; omega
            case rel => exact ⟨(x12_1), (x9_2), (wrap64 (x12_1 + 1)), (by first | rfl | (simp; done) | (simp [*]; done)), (by first | rfl | (simp; done) | (simp [*]; done)), (by first | rfl | (simp; done) | (simp [*]; done)), H', ⟨by have := HK1.out; have := HK2.out; omega⟩, by repeat (first | exact Drawn0.refl _ | apply Drawn0.step)⟩
           ·rw [if_neg c10] at H; have c10b0 : decide (x7_1 < x9_2) = false := decide_eq_false c10; clear c10; have H' := Aside0.mk H; clear H; have p328 : 0 ≤ ((ji6) : Int) := of_decide_eq_true (by assumption); have q328 : (ji6) < (l0.length : Int) := of_decide_eq_true (by assumption); obtain ⟨ad328, e328, hx328_0⟩ := Kd.at_string HR0.out (ji6) p328 q328; cases e328; replace p328 := eq_true p328; replace q328 := eq_true q328; have p329 : 0 ≤ (x9_2 : Int) := of_decide_eq_true (by assumption); have q329 : x9_2 < (l1.length : Int) := of_decide_eq_true (by assumption); obtain ⟨ad329, e329, hx329_0⟩ := Kd.at_string HR1.out x9_2 p329 q329; cases e329; replace p329 := eq_true p329; replace q329 := eq_true q329; go_wp2; (repeat (go_quiet (fail); try go_wp2)); go_roundg k2
            case measure => have := HK1.out; have := HK2.out; omega
            case rel => exact ⟨(x6_1), (x7_1), (wrap64 (x12_1 + 1)), (by first | rfl | (simp; done) | (simp [*]; done)), (by first | rfl | (simp; done) | (simp [*]; done)), (by first | rfl | (simp; done) | (simp [*]; done)), H', ⟨by have := HK1.out; have := HK2.out; omega⟩, by repeat (first | exact Drawn0.refl _ | apply Drawn0.step)⟩
         ·rw [if_neg c8] at H; exact absurd H (by simp)
        ·rw [if_neg c7] at H; exact absurd H (by simp)
       ·rw [if_neg c5] at H; have c5b0 : decide (x9_2 < (l1.length : Int)) = false := decide_eq_false c5; clear c5; by_cases c11 : x9_2 > x7_1
        ·rw [if_pos c11] at H; have c11b0 : decide (x7_1 < x9_2) = true := decide_eq_true c11; clear c11; have H' := Aside0.mk H; clear H; go_wp2; (repeat (go_quiet (fail); try go_wp2)); go_roundg k2
         case measure => have := HK1.out; have := HK2.out; omega
         case rel => exact ⟨(x12_1), (x9_2), (wrap64 (x12_1 + 1)), (by first | rfl | (simp; done) | (simp [*]; done)), (by first | rfl | (simp; done) | (simp [*]; done)), (by first | rfl | (simp; done) | (simp [*]; done)), H', ⟨by have := HK1.out; have := HK2.out; omega⟩, by repeat (first | exact Drawn0.refl _ | apply Drawn0.step)⟩
        ·rw [if_neg c11] at H; have c11b0 : decide (x7_1 < x9_2) = false := decide_eq_false c11; clear c11; have H' := Aside0.mk H; clear H; go_wp2; (repeat (go_quiet (fail); try go_wp2)); go_roundg k2
         case measure => have := HK1.out; have := HK2.out; omega
         case rel => exact ⟨(x6_1), (x7_1), (wrap64 (x12_1 + 1)), (by first | rfl | (simp; done) | (simp [*]; done)), (by first | rfl | (simp; done) | (simp [*]; done)), (by first | rfl | (simp; done) | (simp [*]; done)), H', ⟨by have := HK1.out; have := HK2.out; omega⟩, by repeat (first | exact Drawn0.refl _ | apply Drawn0.step)⟩
      ·rw [if_neg c4] at H; have c4b0 : decide ((wrap64 (x12_1 + x9_2)) < (l0.length : Int)) = false := decide_eq_false c4; clear c4; by_cases c12 : x9_2 > x7_1
       ·rw [if_pos c12] at H; have c12b0 : decide (x7_1 < x9_2) = true := decide_eq_true c12; clear c12; have H' := Aside0.mk H; clear H; go_wp2; (repeat (go_quiet (fail); try go_wp2)); go_roundg k2
        case measure => have := HK1.out; have := HK2.out; omega
        case rel => exact ⟨(x12_1), (x9_2), (wrap64 (x12_1 + 1)), (by first | rfl | (simp; done) | (simp [*]; done)), (by first | rfl | (simp; done) | (simp [*]; done)), (by first | rfl | (simp; done) | (simp [*]; done)), H', ⟨by have := HK1.out; have := HK2.out; omega⟩, by repeat (first | exact Drawn0.refl _ | apply Drawn0.step)⟩
       ·rw [if_neg c12] at H; have c12b0 : decide (x7_1 < x9_2) = false := decide_eq_false c12; clear c12; have H' := Aside0.mk H; clear H; go_wp2; (repeat (go_quiet (fail); try go_wp2)); go_roundg k2
        case measure => have := HK1.out; have := HK2.out; omega
        case rel => exact ⟨(x6_1), (x7_1), (wrap64 (x12_1 + 1)), (by first | rfl | (simp; done) | (simp [*]; done)), (by first | rfl | (simp; done) | (simp [*]; done)), (by first | rfl | (simp; done) | (simp [*]; done)), H', ⟨by have := HK1.out; have := HK2.out; omega⟩, by repeat (first | exact Drawn0.refl _ | apply Drawn0.step)⟩
   ·rw [if_neg c3] at H; have c3b0 : decide (x12_1 < (l0.length : Int)) = false := decide_eq_false c3; clear c3; simp only [Option.some.injEq, Prod.mk.injEq] at H; obtain ⟨rfl, rfl⟩ := H; go_wp2; (repeat (go_quiet (fail); try go_wp2)); go_ret2; exact ⟨by first | rfl | (simp; done) | (simp [*]; done), by repeat (first | exact Drawn0.refl _ | apply Drawn0.step)⟩
end Go.Proofs.Ytfnhjaiioojbkaa.Q
end
section
namespace Go.Proofs.Ytfnhjaiioojbkaa.Q
open Go.RowKit Go.Proofs.YtfnhjaiioojbkaaW.PrintWords Go.Proofs.YtfnhjaiioojbkaaW.PrintLast Go.Proofs.YtfnhjaiioojbkaaW.PrintMore
attribute [local go_sem] max2_int min2_int max_two min_two max_three min_three max_four min_four   -- for this text's walks alone
set_option linter.unusedVariables false
set_option linter.unusedSimpArgs false
def impl_deltaOf.l0 : Nat → List ByteArray → List ByteArray → List (S39) → Option ((List (S39)))
 | 0, _, _, _ => none
 | k + 1, x0, x1, x5 => if (x1.length : Int) > 0 then ((impl_longestRun.f k x0 x1).bind fun bt333 => (if bt333.2 > 0 then (if x5.length < 3518437208883 then (if 0 ≤ bt333.2 then (if bt333.2 ≤ (x1.length : Int) then (impl_deltaOf.l0 k x0 (x1.drop (bt333.2 : Int).toNat) (x5 ++ [(⟨bt333.1, bt333.2, ([] : List ByteArray)⟩ : S39)])) else (none)) else (none)) else (none)) else (if (wrap64 ((x5.length : Int) - 1)) ≥ 0 then (if 0 ≤ (wrap64 ((x5.length : Int) - 1)) then (if (wrap64 ((x5.length : Int) - 1)) < (x5.length : Int) then (if ((rd_T39 x5 (wrap64 ((x5.length : Int) - 1))).f1) = 0 then (if 0 < (x1.length : Int) then (if ((rd_T39 x5 (wrap64 ((x5.length : Int) - 1))).f2).length < 8796093022208 then (if 1 ≤ (x1.length : Int) then (impl_deltaOf.l0 k x0 (x1.drop 1) (x5.set ((wrap64 ((x5.length : Int) - 1)) : Int).toNat (⟨(rd_T39 x5 (wrap64 ((x5.length : Int) - 1))).f0, (rd_T39 x5 (wrap64 ((x5.length : Int) - 1))).f1, (((rd_T39 x5 (wrap64 ((x5.length : Int) - 1))).f2) ++ [rdOf ByteArray.empty x1 0])⟩ : S39))) else (none)) else (none)) else (none)) else (if 0 < (x1.length : Int) then (if x5.length < 3518437208883 then (if 1 ≤ (x1.length : Int) then (impl_deltaOf.l0 k x0 (x1.drop 1) (x5 ++ [(⟨0, 0, (([rdOf ByteArray.empty x1 0] : List ByteArray))⟩ : S39)])) else (none)) else (none)) else (none))) else (none)) else (none)) else (if 0 < (x1.length : Int) then (if x5.length < 3518437208883 then (if 1 ≤ (x1.length : Int) then (impl_deltaOf.l0 k x0 (x1.drop 1) (x5 ++ [(⟨0, 0, (([rdOf ByteArray.empty x1 0] : List ByteArray))⟩ : S39)])) else (none)) else (none)) else (none))))) else (some x5)
def impl_deltaOf.f (k : Nat) (l0 : List ByteArray) (l1 : List ByteArray) : Option ((List (S39))) := impl_deltaOf.l0 k l0 l1 (([] : List (S39)))
theorem impl_deltaOf.mono_l : ∀ k, (∀ y0 y1 y2, LeO (impl_deltaOf.l0 k y0 y1 y2) (impl_deltaOf.l0 (k + 1) y0 y1 y2))
 | 0 => fun _ _ _ r h => by simp [impl_deltaOf.l0] at h
 | k + 1 => by
  have ih0 := impl_deltaOf.mono_l k
  ·intro y0 y1 y2
   unfold impl_deltaOf.l0
   repeat' first
   | (with_reducible exact ih0 _ _ _)
   | (with_reducible exact impl_longestRun.mono _ _ _)
   | (with_reducible exact LeO.refl _)
   | (with_reducible exact LeO.none _)
   | (with_reducible refine LeO.ite ?_ ?_)
   | (with_reducible refine LeO.bind ?_ (fun _ => ?_))
   | exact ih0 _ _ _
   | exact impl_longestRun.mono _ _ _
   | exact LeO.none _
   | refine LeO.ite ?_ ?_
   | refine LeO.bind ?_ (fun _ => ?_)
theorem impl_deltaOf.mono : ∀ a0 a1 k, LeO (impl_deltaOf.f k a0 a1) (impl_deltaOf.f (k + 1) a0 a1) := by
 intro a0 a1 k; have ih0 := impl_deltaOf.mono_l k
 unfold impl_deltaOf.f
 repeat' first
  | (with_reducible exact ih0 _ _ _)
  | (with_reducible exact impl_longestRun.mono _ _ _)
  | (with_reducible exact LeO.refl _)
  | (with_reducible exact LeO.none _)
  | (with_reducible refine LeO.ite ?_ ?_)
  | (with_reducible refine LeO.bind ?_ (fun _ => ?_))
  | exact ih0 _ _ _
  | exact impl_longestRun.mono _ _ _
  | exact LeO.none _
  | refine LeO.ite ?_ ?_
  | refine LeO.bind ?_ (fun _ => ?_)
def impl_deltaOf.T10 : Bool × List (List Nat × List Nat) := (true, [([], []), ([], []), ([], []), ([], []), ([2, 3], [2, 3]), ([4], [4]), ([5], [5]), ([], []), ([7], [7]), ([8], [8]), ([9], [9]), ([6, 10], [6, 10]), ([0, 1, 0, 1, 2, 3, 4, 5, 6, 7, 8, 9, 10, 11], [0, 1]), ([12, 0, 1, 2, 3, 4, 5, 6, 7, 8, 9, 10, 11], [12]), ([13, 11, 11, 0, 1, 2, 3, 4, 5, 6, 7, 8, 9, 10, 11], [11, 13])])
def impl_deltaOf.B10 : List Nat := [0, 0, 0, 0, 12, 28, 60, 0, 128, 384, 896, 2044, 4095, 8191, 16383]
theorem impl_deltaOf.tab10 : rtab .any (opsOf Try.f70 10) = impl_deltaOf.T10 := by kernel_rfl
theorem impl_deltaOf.bits10 : waitsOk impl_deltaOf.T10.2 impl_deltaOf.B10 = true := by kernel_rfl
set_option maxHeartbeats 8000000 in
set_option maxRecDepth 100000 in
theorem impl_deltaOf.calls (k : Nat) (A0 : Option Addr) (c0 : Nat) (l0 : List ByteArray) (P1_ : Nat → Prop) (A1 : Option Addr) (c1 : Nat) (l1 : List ByteArray) (r : List (S39)) (w : World) (hr0 : Kd.C Kd.string w A0 l0.length l0) (hc0 : l0.length ≤ c0) (hs1 : Kd.V Kd.string 9 w w.heap.size (fun k_ => P1_ k_) (.slice A1 l1.length c1) l1) (h : impl_deltaOf.f k l0 l1 = some r) :
 Calls Try.prog 70 #[.slice A0 l0.length c0, .slice A1 l1.length c1] w fun e w' => ∃ v0_ : Value, e = .returned (v0_) ∧ Kd.S k39 39 w' w.heap.size (fun k_ => (w.heap.size ≤ k_)) v0_ r ∧ Below w.heap.size w w' := by
 have hu39 := Try.underlying39; have HR0 := Aside0.mk hr0; have HC0 := Aside0.mk hc0; clear hr0 hc0; have HO1 := Aside0.mk (show Kd.V Kd.string 9 w w.heap.size (fun k_ => (P1_ k_ ∧ k_ < w.heap.size)) (.slice A1 l1.length c1) l1 from Kd.V_bound hs1); have HB := Aside0.mk (Below.refl w.heap.size w); have H : (impl_deltaOf.l0 k l0 l1 (([] : List (S39)))) = some r := h; clear h; obtain ⟨y330, hy330⟩ : ∃ y_ : List (S39), y_ = (([] : List (S39))) := ⟨_, rfl⟩; (replace H : (impl_deltaOf.l0 k l0 l1 y330) = some r := by first | (rw [hy330]; with_reducible exact H) | (have H2_ := (Option.bind_some _ _).symm.trans H; rw [hy330]; with_reducible exact H2_) | (have H2_ := (Option.bind_some _ _).symm.trans H; with_reducible exact H2_) | with_reducible exact H | (rw [hy330]; exact H) | exact H); have Ny330 := Aside0.mk hy330; clear hy330; have H' := Aside0.mk H; clear H; go_enter Try.func70, Try.ntmps70; go_wp2_with (first | ((with_reducible refine gate_dst (N := 9) rfl ?_); refine Kd.S_lit k39 _ 39 ?hg (N := 9) ?hd (xs := ([] : List (S39))) (inner := []) (ok := fun _ => True) (okp := fun _ => True) ?hr ?hp (fun _ hk => hk) trivial (Below.refl _ _) (Nat.le_refl _) (by simp) ?_; (case hd => rfl); (case hg => rfl); (case hr => first | (go_simp; done) | (go_simp; rfl)); (case hp => exact (Reps.none _ _)); intro v331 w3 ho4 hb hg_ hnew_; clear hg_ hnew_; (first | rw [← Ny330.out] at ho4 | (simp only [Int.reduceToNat] at ho4; rw [← Ny330.out] at ho4)); have n0_ := Aside0.mk (Kd.V_elder' (by (with_reducible repeat (first | apply Kd.V_alloc | apply Kd.V_drewN | apply Kd.V_drew)); exact HO1.out) (Kd.S_base ho4) hb); have n1_ := Aside0.mk (Kd.S_lower (Kd.S_newM (M := fun k_ => (w.heap.size ≤ k_)) ho4 (below_size (by repeat (first | (with_reducible first | exact HB.out | apply below_alloc | apply pw_below_drewN | apply below_drew1) | exact HB.out))) (fun k_ h_ => h_)) (below_size (by repeat (first | (with_reducible first | exact HB.out | apply below_alloc | apply pw_below_drewN | apply below_drew1) | exact HB.out)))); have n2_ := Aside0.mk (below_step (by repeat (first | (with_reducible first | exact HB.out | apply below_alloc | apply pw_below_drewN | apply below_drew1) | exact HB.out)) hb); clear HO1; clear HB; have HO1 := n0_; have HO332 := n1_; have HB := n2_; clear n0_ n1_ n2_; clear hb ho4)); go_loopg [1, 5] k (fun kq v1 v5 w' => ∃ (x1_1 : List ByteArray) (x5_1 : List (S39)), Aside0 (impl_deltaOf.l0 kq l0 x1_1 x5_1 = some r) ∧ Aside0 (kq ≤ k) ∧ Aside0 (Kd.V Kd.string 9 w' w.heap.size (fun k_ => (P1_ k_ ∧ k_ < w.heap.size) ∧ some k_ ≠ (v5 : Value).ownBlock) v1 x1_1) ∧ Aside0 (Kd.S k39 39 w' w.heap.size (fun k_ => (w.heap.size ≤ k_)) v5 x5_1) ∧ Aside0 (Below w.heap.size w w'))
 case atStart => exact ⟨(l1), (y330), H', ⟨Nat.le_refl _⟩, ⟨by (with_reducible repeat (first | apply Kd.V_alloc | apply Kd.V_drewN | apply Kd.V_drew)); exact HO1.out⟩, ⟨by (with_reducible repeat (first | apply Kd.S_alloc | apply Kd.S_drewN | apply Kd.S_drew)); exact Kd.S_mono HO332.out (fun _ hk => hk.1)⟩, ⟨by repeat (first | (with_reducible first | exact HB.out | apply below_alloc | apply pw_below_drewN | apply below_drew1) | exact HB.out)⟩⟩
 case round =>
  clear H'; (try clear c1); (try clear p2); obtain ⟨x1_1, x5_1, HA, HK1, HO_1, HO_5, HB⟩ := hrel
  cases gk with
  | zero => exact absurd HA.out (by simp [impl_deltaOf.l0])
  | succ k1 =>
   have H := HA.out; clear HA; simp only [impl_deltaOf.l0] at H; by_cases c5 : (x1_1.length : Int) > 0
   ·rw [if_pos c5] at H; have c5b0 : decide (0 < (x1_1.length : Int)) = true := decide_eq_true c5; have c5b1 : decide (0 < x1_1.length) = true := decide_eq_true (by omega); clear c5; replace H := Option.bind_eq_some_iff.mp H; obtain ⟨⟨t333, t334⟩, A60, H⟩ := H; replace H : (if t334 > 0 then (if x5_1.length < 3518437208883 then (if 0 ≤ t334 then (if t334 ≤ (x1_1.length : Int) then (impl_deltaOf.l0 k1 l0 (x1_1.drop (t334 : Int).toNat) (x5_1 ++ [(⟨t333, t334, ([] : List ByteArray)⟩ : S39)])) else (none)) else (none)) else (none)) else (if (wrap64 ((x5_1.length : Int) - 1)) ≥ 0 then (if 0 ≤ (wrap64 ((x5_1.length : Int) - 1)) then (if (wrap64 ((x5_1.length : Int) - 1)) < (x5_1.length : Int) then (if ((rd_T39 x5_1 (wrap64 ((x5_1.length : Int) - 1))).f1) = 0 then (if 0 < (x1_1.length : Int) then (if ((rd_T39 x5_1 (wrap64 ((x5_1.length : Int) - 1))).f2).length < 8796093022208 then (if 1 ≤ (x1_1.length : Int) then (impl_deltaOf.l0 k1 l0 (x1_1.drop 1) (x5_1.set ((wrap64 ((x5_1.length : Int) - 1)) : Int).toNat (⟨(rd_T39 x5_1 (wrap64 ((x5_1.length : Int) - 1))).f0, (rd_T39 x5_1 (wrap64 ((x5_1.length : Int) - 1))).f1, (((rd_T39 x5_1 (wrap64 ((x5_1.length : Int) - 1))).f2) ++ [rdOf ByteArray.empty x1_1 0])⟩ : S39))) else (none)) else (none)) else (none)) else (if 0 < (x1_1.length : Int) then (if x5_1.length < 3518437208883 then (if 1 ≤ (x1_1.length : Int) then (impl_deltaOf.l0 k1 l0 (x1_1.drop 1) (x5_1 ++ [(⟨0, 0, (([rdOf ByteArray.empty x1_1 0] : List ByteArray))⟩ : S39)])) else (none)) else (none)) else (none))) else (none)) else (none)) else (if 0 < (x1_1.length : Int) then (if x5_1.length < 3518437208883 then (if 1 ≤ (x1_1.length : Int) then (impl_deltaOf.l0 k1 l0 (x1_1.drop 1) (x5_1 ++ [(⟨0, 0, (([rdOf ByteArray.empty x1_1 0] : List ByteArray))⟩ : S39)])) else (none)) else (none)) else (none)))) = some r := H; have A6 := Aside0.mk A60; clear A60; by_cases c7 : t334 > 0
    ·rw [if_pos c7] at H; have c7b0 : decide (0 < t334) = true := decide_eq_true c7; clear c7; by_cases c8 : x5_1.length < 3518437208883
     ·rw [if_pos c8] at H; have LMc8 := Aside0.mk c8; clear c8; obtain ⟨y335, hy335⟩ : ∃ y_ : List (S39), y_ = (x5_1 ++ [(⟨t333, t334, ([] : List ByteArray)⟩ : S39)]) := ⟨_, rfl⟩; (replace H : (if 0 ≤ t334 then (if t334 ≤ (x1_1.length : Int) then (impl_deltaOf.l0 k1 l0 (x1_1.drop (t334 : Int).toNat) y335) else (none)) else (none)) = some r := by first | (rw [hy335]; with_reducible exact H) | (have H2_ := (Option.bind_some _ _).symm.trans H; rw [hy335]; with_reducible exact H2_) | (have H2_ := (Option.bind_some _ _).symm.trans H; with_reducible exact H2_) | with_reducible exact H | (rw [hy335]; exact H) | exact H); have Ny335 := Aside0.mk hy335; clear hy335; by_cases c9 : 0 ≤ t334
      ·rw [if_pos c9] at H; have c9b0 := eq_true c9; have c9b1 : decide (0 ≤ t334) = true := decide_eq_true c9; clear c9; by_cases c10 : t334 ≤ (x1_1.length : Int)
       ·rw [if_pos c10] at H; have c10b0 := eq_true c10; have c10b1 : decide (t334 ≤ (x1_1.length : Int)) = true := decide_eq_true c10; clear c10; obtain ⟨y338, hy338⟩ : ∃ y_ : List ByteArray, y_ = (x1_1.drop (t334 : Int).toNat) := ⟨_, rfl⟩; (replace H : (impl_deltaOf.l0 k1 l0 y338 y335) = some r := by first | (rw [hy338]; with_reducible exact H) | (have H2_ := (Option.bind_some _ _).symm.trans H; rw [hy338]; with_reducible exact H2_) | (have H2_ := (Option.bind_some _ _).symm.trans H; with_reducible exact H2_) | with_reducible exact H | (rw [hy338]; exact H) | exact H); have Ny338 := Aside0.mk hy338; clear hy338; have H' := Aside0.mk H; clear H; obtain ⟨Ao11, co11, eo11⟩ := Kd.V_slice HO_1.out; subst eo11; go_wp2_with (first | ((with_reducible refine gate_callee (f := 102) rfl ?_); refine goesL_ (some 16) rfl rfl Try.func102 (by kernel_rfl) rfl #[.slice A0 l0.length c0, .slice Ao11 x1_1.length co11] rfl (by (try simp only [List.map_toArray, List.map_cons, List.map_nil]); first | done | rfl | (simp only [List.length_drop, List.length_take]; rfl)) ?_; (with_reducible refine (impl_longestRun.calls k1 _ _ l0 _ _ x1_1 t333 t334 _ ?side1 ?side2 ?side3 ?side4 A6.out).mono ?_); (case side1 => repeat (first | exact (Kd.C_below HR0.out HB.out) | (with_reducible refine Kd.C_alloc ?_ _) | (with_reducible refine Kd.C_drewN ?_ _) | (with_reducible refine Kd.C_drew ?_))); (case side2 => exact HC0.out); (case side3 => repeat (first | exact (Kd.V_reads' HO_1.out).2.2 | (with_reducible refine Kd.C_alloc ?_ _) | (with_reducible refine Kd.C_drewN ?_ _) | (with_reducible refine Kd.C_drew ?_))); (case side4 => exact (Kd.V_reads' HO_1.out).2.1); rintro e w' ⟨rfl, ⟨nd, rfl⟩⟩; refine ⟨_, rfl, ?_⟩; obtain ⟨Ao12, co12, eo12⟩ := Kd.S_slice HO_5.out; subst eo12) | ((with_reducible refine gate_builtin (b := .append) (xs := #[.tmp 33, .tmp 37]) rfl ?_); at_builtin; refine Kd.S_append k39 (w0 := w) w.heap.size rfl (.tmp 33) (.tmp 37) 25 39 (.agg #[(.int .i64 0), (.int .i64 0), (.slice none 0 0)]) 40 rfl Try.underlying25 info39 rfl (by decide) (by omega) (.slice Ao12 x5_1.length co12) x5_1 (⟨t333, t334, ([] : List ByteArray)⟩ : S39) [.int .i64 t333, .int .i64 t334, .slice none 0 0] (fun k_ => (w.heap.size ≤ k_)) (fun _ => False) rfl rfl ?aP (fun k_ hk_ => hk_.elim) ?aF ?aO ?aB ?aS ?aL ?_; (case aP => exact k39_mkM _ _ _ (⟨t333, t334, ([] : List ByteArray)⟩ : S39) (Kd.R_nil _ _ _ _ _)); (case aB => exact (by repeat (first | (with_reducible first | exact HB.out | apply below_alloc | apply pw_below_drewN | apply below_drew1) | exact HB.out))); (case aF => exact (fun k_ hk => (Nat.le_trans (below_size (by repeat (first | (with_reducible first | exact HB.out | apply below_alloc | apply pw_below_drewN | apply below_drew1) | exact HB.out))) hk))); (case aO => exact (by (with_reducible repeat (first | apply Kd.S_alloc | apply Kd.S_drewN | apply Kd.S_drew)); exact Kd.S_mono HO_5.out (fun k_ hk => ⟨hk, fun e_ => e_⟩))); (case aS => exact (below_size (by repeat (first | (with_reducible first | exact HB.out | apply below_alloc | apply pw_below_drewN | apply below_drew1) | exact HB.out)))); (case aL => have := LMc8.out; omega); intro v336 w13 ho hb hg hat; rw [← Ny335.out] at ho; have n0_ := Aside0.mk (Kd.V_afterv (ok := (fun k_ => (P1_ k_ ∧ k_ < w.heap.size))) (by (with_reducible repeat (first | apply Kd.V_alloc | apply Kd.V_drewN | apply Kd.V_drew)); exact HO_1.out) hg hat); have n1_ := Aside0.mk (hb); have n2_ := Aside0.mk (ho); clear HO_1; clear HB; clear HO_5; have HO_1 := n0_; have HB := n1_; have HO337 := n2_; clear n0_ n1_ n2_; clear ho hb hg hat; have q14 : (t334 : Int) ≤ ((x1_1.length : Int) : Int) := of_decide_eq_true (by assumption); obtain ⟨i014, hi014, _, hsz14, _⟩ := info_parts info9; have hroom14 : x1_1.length ≤ co11 := (Kd.V_reads' HO_1.out).2.1; have hC14 : Kd.F Kd.string _ _ Ao11 x1_1.length x1_1 := (Kd.V_at (base := w.heap.size) HO_1.out).2.2; have q014 : (0 : Int) ≤ (t334 : Int) := of_decide_eq_true (by assumption); have hcut14 := cut_from (P := Try.prog) 30 9 .i64 Try.underlying30 hi014 1 hsz14 Ao11 x1_1.length co11 t334 q014 q14; have hr14 := Kd.F_cut (m := (t334 : Int).toNat) (c := co11) hC14 (by omega) hroom14; obtain ⟨A14, hA14⟩ : ∃ A1, A1 = (if co11 = (t334 : Int).toNat then Ao11 else (Ao11 : Option Addr).map (·.add ((t334 : Int).toNat * 1))) := ⟨_, rfl⟩; obtain ⟨c14, hc14⟩ : ∃ c1, c1 = co11 - (t334 : Int).toNat := ⟨_, rfl⟩; have hy14 : y338.length = x1_1.length - (t334 : Int).toNat := (by rw [Ny338.out, List.length_drop] <;> omega); rw [show (x1_1).drop (t334 : Int).toNat = y338 from Ny338.out.symm] at hr14; replace hr14 : Kd.F Kd.string _ _ A14 y338.length y338 := (by rw [hA14]; exact hr14); rw [← hy14, ← hA14, ← hc14] at hcut14; have HO342 := Aside0.mk (show Kd.V Kd.string 9 _ w.heap.size _ (.slice A14 y338.length c14) y338 from Kd.V_mk (by rw [hy14, hc14]; exact Nat.sub_le_sub_right hroom14 _) hr14); have HC342 := Aside0.mk (show y338.length ≤ c14 from by rw [hy14, hc14]; exact Nat.sub_le_sub_right hroom14 _); clear hr14 hC14 hroom14 hi014 hsz14 hc14; have KY14 := Aside0.mk hy14; have KA14 := Aside0.mk hA14; clear hy14 hA14; replace q14 := eq_true q14))
        go_roundg k1
        case measure => have := HK1.out; omega
        case rel => exact ⟨(y338), (y335), H', ⟨by have := HK1.out; omega⟩, ⟨by (with_reducible repeat (first | apply Kd.V_alloc | apply Kd.V_drewN | apply Kd.V_drew)); exact HO342.out⟩, ⟨by (with_reducible repeat (first | apply Kd.S_alloc | apply Kd.S_drewN | apply Kd.S_drew)); exact HO337.out⟩, ⟨by repeat (first | (with_reducible first | exact HB.out | apply below_alloc | apply pw_below_drewN | apply below_drew1) | exact HB.out)⟩⟩
       ·rw [if_neg c10] at H; exact absurd H (by simp)
      ·rw [if_neg c9] at H; exact absurd H (by simp)
     ·rw [if_neg c8] at H; exact absurd H (by simp)
    ·rw [if_neg c7] at H; have c7b0 : decide (0 < t334) = false := decide_eq_false c7; clear c7; by_cases c15 : (wrap64 ((x5_1.length : Int) - 1)) ≥ 0
     ·rw [if_pos c15] at H; have c15b0 : decide (0 ≤ (wrap64 ((x5_1.length : Int) - 1))) = true := decide_eq_true c15; clear c15; obtain ⟨ji16, hji16⟩ : ∃ j_ : Int, (wrap64 ((x5_1.length : Int) - 1)) = j_ := ⟨_, rfl⟩; (replace H : (if 0 ≤ (ji16) then (if (ji16) < (x5_1.length : Int) then (if ((rd_T39 x5_1 (ji16)).f1) = 0 then (if 0 < (x1_1.length : Int) then (if ((rd_T39 x5_1 (ji16)).f2).length < 8796093022208 then (if 1 ≤ (x1_1.length : Int) then (impl_deltaOf.l0 k1 l0 (x1_1.drop 1) (x5_1.set ((ji16) : Int).toNat (⟨(rd_T39 x5_1 (ji16)).f0, (rd_T39 x5_1 (ji16)).f1, (((rd_T39 x5_1 (ji16)).f2) ++ [rdOf ByteArray.empty x1_1 0])⟩ : S39))) else (none)) else (none)) else (none)) else (if 0 < (x1_1.length : Int) then (if x5_1.length < 3518437208883 then (if 1 ≤ (x1_1.length : Int) then (impl_deltaOf.l0 k1 l0 (x1_1.drop 1) (x5_1 ++ [(⟨0, 0, (([rdOf ByteArray.empty x1_1 0] : List ByteArray))⟩ : S39)])) else (none)) else (none)) else (none))) else (none)) else (none)) = some r := by first | (rw [hji16] at H; exact H) | (simp only [hji16] at H ⊢; exact H))
      (try rw [hji16] at c15b0)
      (try rw [hji16] at A6)
      have hji16w : (IntKind.i64.wrap ((x5_1.length : Int) - 1)) = ji16 := (i64_w _).trans hji16; by_cases c17 : 0 ≤ (ji16)
      ·rw [if_pos c17] at H; have c17b0 : decide (0 ≤ (ji16)) = true := decide_eq_true c17; clear c17; by_cases c18 : (ji16) < (x5_1.length : Int)
       ·rw [if_pos c18] at H; have c18b0 : decide ((ji16) < (x5_1.length : Int)) = true := decide_eq_true c18; clear c18; by_cases c19 : ((rd_T39 x5_1 (ji16)).f1) = 0
        ·rw [if_pos c19] at H; have c19b0 : (((rd_T39 x5_1 (ji16)).f1) == 0) = true := beq_iff_eq.mpr c19; have c19b1 : (((rd_T39 x5_1 (ji16)).f1) != 0) = false := bne_eq_false_iff_eq.mpr c19; clear c19; by_cases c20 : 0 < (x1_1.length : Int)
         ·rw [if_pos c20] at H; have c20b0 : decide (0 < (x1_1.length : Int)) = true := decide_eq_true c20; have c20b1 : decide (0 < x1_1.length) = true := decide_eq_true (by omega); clear c20; by_cases c21 : ((rd_T39 x5_1 (ji16)).f2).length < 8796093022208
          ·rw [if_pos c21] at H; have LMc21 := Aside0.mk c21; clear c21; obtain ⟨y346, hy346⟩ : ∃ y_ : List ByteArray, y_ = (((rd_T39 x5_1 (ji16)).f2) ++ [rdOf ByteArray.empty x1_1 0]) := ⟨_, rfl⟩; (replace H : (if 1 ≤ (x1_1.length : Int) then (impl_deltaOf.l0 k1 l0 (x1_1.drop 1) (x5_1.set ((ji16) : Int).toNat (⟨(rd_T39 x5_1 (ji16)).f0, (rd_T39 x5_1 (ji16)).f1, y346⟩ : S39))) else (none)) = some r := by first | (rw [hy346]; with_reducible exact H) | (have H2_ := (Option.bind_some _ _).symm.trans H; rw [hy346]; with_reducible exact H2_) | (have H2_ := (Option.bind_some _ _).symm.trans H; with_reducible exact H2_) | with_reducible exact H | (rw [hy346]; exact H) | exact H); have Ny346 := Aside0.mk hy346; clear hy346; obtain ⟨y349, hy349⟩ : ∃ y_ : List (S39), y_ = (x5_1.set ((ji16) : Int).toNat (⟨(rd_T39 x5_1 (ji16)).f0, (rd_T39 x5_1 (ji16)).f1, y346⟩ : S39)) := ⟨_, rfl⟩; (replace H : (if 1 ≤ (x1_1.length : Int) then (impl_deltaOf.l0 k1 l0 (x1_1.drop 1) y349) else (none)) = some r := by first | (rw [hy349]; with_reducible exact H) | (have H2_ := (Option.bind_some _ _).symm.trans H; rw [hy349]; with_reducible exact H2_) | (have H2_ := (Option.bind_some _ _).symm.trans H; with_reducible exact H2_) | with_reducible exact H | (rw [hy349]; exact H) | exact H); have Ny349 := Aside0.mk hy349; clear hy349; by_cases c23 : 1 ≤ (x1_1.length : Int)
           ·rw [if_pos c23] at H; have c23b0 := eq_true c23; have c23b1 : decide (1 ≤ (x1_1.length : Int)) = true := decide_eq_true c23; clear c23; obtain ⟨y350, hy350⟩ : ∃ y_ : List ByteArray, y_ = (x1_1.drop 1) := ⟨_, rfl⟩; (replace H : (impl_deltaOf.l0 k1 l0 y350 y349) = some r := by first | (rw [hy350]; with_reducible exact H) | (have H2_ := (Option.bind_some _ _).symm.trans H; rw [hy350]; with_reducible exact H2_) | (have H2_ := (Option.bind_some _ _).symm.trans H; with_reducible exact H2_) | with_reducible exact H | (rw [hy350]; exact H) | exact H); have Ny350 := Aside0.mk hy350; clear hy350; have H' := Aside0.mk H; clear H; obtain ⟨Ao24, co24, eo24⟩ := Kd.V_slice HO_1.out; subst eo24; (try go_wp2_with (first | ((with_reducible refine gate_callee (f := 102) rfl ?_); refine goesL_ (some 16) rfl rfl Try.func102 (by kernel_rfl) rfl #[.slice A0 l0.length c0, .slice Ao24 x1_1.length co24] rfl (by (try simp only [List.map_toArray, List.map_cons, List.map_nil]); first | done | rfl | (simp only [List.length_drop, List.length_take]; rfl)) ?_; (with_reducible refine (impl_longestRun.calls k1 _ _ l0 _ _ x1_1 t333 t334 _ ?side1 ?side2 ?side3 ?side4 A6.out).mono ?_); (case side1 => repeat (first | exact (Kd.C_below HR0.out HB.out) | (with_reducible refine Kd.C_alloc ?_ _) | (with_reducible refine Kd.C_drewN ?_ _) | (with_reducible refine Kd.C_drew ?_))); (case side2 => exact HC0.out); (case side3 => repeat (first | exact (Kd.V_reads' HO_1.out).2.2 | (with_reducible refine Kd.C_alloc ?_ _) | (with_reducible refine Kd.C_drewN ?_ _) | (with_reducible refine Kd.C_drew ?_))); (case side4 => exact (Kd.V_reads' HO_1.out).2.1); rintro e w' ⟨rfl, ⟨nd, rfl⟩⟩; refine ⟨_, rfl, ?_⟩; (try (rw [drewN_self wr]; generalize hq_ : World.drewN wr _ = wr; have n0_ : Aside0 (Kd.V Kd.string 9 wr w.heap.size (fun k_ => (P1_ k_ ∧ k_ < w.heap.size) ∧ some k_ ≠ (u5 : Value).ownBlock) (.slice Ao24 x1_1.length co24) x1_1) := ⟨by rw [← hq_]; exact (by (with_reducible repeat (first | apply Kd.V_alloc | apply Kd.V_drewN | apply Kd.V_drew)); exact HO_1.out)⟩; have n1_ : Aside0 (Kd.S k39 39 wr w.heap.size (fun k_ => (w.heap.size ≤ k_)) u5 x5_1) := ⟨by rw [← hq_]; exact (by (with_reducible repeat (first | apply Kd.S_alloc | apply Kd.S_drewN | apply Kd.S_drew)); exact HO_5.out)⟩; have n2_ : Aside0 (Below w.heap.size w wr) := ⟨by rw [← hq_]; exact (by repeat (first | (with_reducible first | exact HB.out | apply below_alloc | apply pw_below_drewN | apply below_drew1) | exact HB.out))⟩; clear HO_1 HO_5 HB hq_; have HO_1 := n0_; have HO_5 := n1_; have HB := n2_; clear n0_ n1_ n2_)); obtain ⟨Ao25, co25, eo25⟩ := Kd.S_slice HO_5.out; subst eo25; have p343 : 0 ≤ ((ji16) : Int) := of_decide_eq_true (by assumption); have q343 : (ji16) < (x5_1.length : Int) := of_decide_eq_true (by assumption); obtain ⟨ad343, A343_2, c343_2, e343, hx343_0, hx343_1, hx343_2, hl343_2, hi343_2⟩ := at_T39 (Kd.S_reads' HO_5.out).2.2 (ji16) p343 q343; cases e343; obtain ⟨ce343, hce343, hMe343, hcc343⟩ := Kd.S_get HO_5.out z39 (ji16) p343 (by first | exact q343 | exact of_decide_eq_true (by assumption) | (have e_ := (Kd.S_reads' HO_5.out).1; omega)); obtain ⟨ve343_2, rfl, ge343_2⟩ := k39_openM hMe343; have hv343_2 := hcc343 2 _ rfl; rw [add_field _ _ 2 (by omega)] at hv343_2; replace hv343_2 := Option.some.inj (hv343_2.symm.trans hx343_2); rw [hv343_2] at ge343_2; have HL343_2 := Aside0.mk (show Kd.R Kd.string 9 _ _ _ _ ((rd_T39 x5_1 (ji16)).f2) from ge343_2); clear hv343_2 ge343_2; have HX343_2 := Aside0.mk hx343_2; clear hcc343 hce343; have HR343_2 := Aside0.mk hi343_2; have HC343_2 := Aside0.mk hl343_2; clear hi343_2 hl343_2; replace p343 := eq_true p343; replace q343 := eq_true q343)))
            have n0_ := Aside0.mk (Kd.V_drew HO_1.out); have n1_ := Aside0.mk (Kd.S_drew HO_5.out); have n2_ := Aside0.mk (Kd.R_drew HL343_2.out); have n3_ := Aside0.mk (Kd.C_drew HR343_2.out); have n4_ := Aside0.mk (below_drew1 HB.out); clear HO_1; clear HO_5; clear HL343_2; clear HR343_2; clear HB; have HO_1 := n0_; have HO_5 := n1_; have HL343_2 := n2_; have HR343_2 := n3_; have HB := n4_; clear n0_ n1_ n2_ n3_ n4_; have p344 : 0 ≤ ((ji16) : Int) := of_decide_eq_true (by assumption); have q344 : (ji16) < (x5_1.length : Int) := of_decide_eq_true (by assumption); obtain ⟨ad344, A344_2, c344_2, e344, hx344_0, hx344_1, hx344_2, hl344_2, hi344_2⟩ := at_T39 (Kd.S_reads' HO_5.out).2.2 (ji16) p344 q344; obtain rfl : ad343 = ad344 := (by injection e344); obtain ⟨ce344, hce344, hMe344, hcc344⟩ := Kd.S_get HO_5.out z39 (ji16) p344 (by first | exact q344 | exact of_decide_eq_true (by assumption) | (have e_ := (Kd.S_reads' HO_5.out).1; omega)); obtain ⟨ve344_2, rfl, ge344_2⟩ := k39_openM hMe344; have hv344_2 := hcc344 2 _ rfl; rw [add_field _ _ 2 (by omega)] at hv344_2; replace hv344_2 := Option.some.inj (hv344_2.symm.trans hx344_2); rw [hv344_2] at ge344_2; have HL344_2 := Aside0.mk (show Kd.R Kd.string 9 _ _ _ _ ((rd_T39 x5_1 (ji16)).f2) from ge344_2); clear hv344_2 ge344_2; have HX344_2 := Aside0.mk hx344_2; clear hcc344 hce344; have HR344_2 := Aside0.mk hi344_2; have HC344_2 := Aside0.mk hl344_2; clear hi344_2 hl344_2; replace p344 := eq_true p344; replace q344 := eq_true q344; have p345 : 0 ≤ (0 : Int) := (by omega); have q345 : 0 < (x1_1.length : Int) := of_decide_eq_true (by assumption); obtain ⟨ad345, e345, hx345_0⟩ := Kd.at_string (Kd.V_reads' HO_1.out).2.2 0 p345 q345; cases e345; have qi345 : (0 < x1_1.length) = True := eq_true (by omega)
            (try rw [show ((0 : Int)).toNat = 0 from rfl] at hx345_0)
            (try rw [Addr.add_zero'] at hx345_0)
            replace p345 := eq_true p345; replace q345 := eq_true q345; obtain ⟨go27, co27, eo27, gb27, gl27, cl27, HG27⟩ := Kd.S_form HO_5.out (by have h_ : ((ji16) : Int) < ((x5_1.length : Int) : Int) := of_decide_eq_true (by assumption); have h2_ : 0 ≤ ((ji16) : Int) := (of_decide_eq_true (by assumption)); omega)
            (first | cases eo27 | (injection eo27 with ea_ en_ ec_; (first | subst ea_ | (injection ea_ with ea_; subst ea_)); subst ec_; clear en_))
            have GB27 := Aside0.mk gb27; have GG27 := Aside0.mk HG27; clear gb27 gl27 HG27
            (first | simp only [add_plain] at hx343_0 | skip)
            (first | simp only [add_plain] at hx343_1 | skip)
            (first | simp only [add_plain] at hx343_2 | skip)
            (first | simp only [add_plain] at hx344_0 | skip)
            (first | simp only [add_plain] at hx344_1 | skip)
            (first | simp only [add_plain] at hx344_2 | skip)
            obtain ⟨oki27, ce27, hcl27, hM27, hcc27, _, _, hH27⟩ := Kd.S_elem HO_5.out z39 ((ji16) : Int) (of_decide_eq_true (by assumption)) (by have h_ : ((ji16) : Int) < ((x5_1.length : Int) : Int) := of_decide_eq_true (by assumption); first | exact h_ | (have e_ := (Kd.S_reads' HO_5.out).1; omega) | simpa using h_); obtain ⟨ve27_2, rfl, ge27_2⟩ := k39_openM hM27; have hv27 := hcc27 2 _ rfl; have hX27 := HX344_2.out
            (try simp only [add_plain] at hX27)
            (try simp only [Nat.add_zero] at hv27)
            replace hv27 := Option.some.inj (hv27.symm.trans hX27); subst hv27; clear hX27 hcc27 hcl27; have UU27 := Aside0.mk (show Kd.R Kd.string 9 _ w.heap.size oki27 (.slice A344_2 ((rd_T39 x5_1 (ji16)).f2).length c344_2) ((rd_T39 x5_1 (ji16)).f2) from ge27_2); have HH27 := Aside0.mk hH27; have HN27 := Aside0.mk (Kd.S_reads' HO_5.out).1; clear hH27 ge27_2; refine start_ (n := 15) (S := fun w' => w'.cell? ((⟨go27, (((ji16)).toNat * 3), none⟩ : Addr)) = some (.int .i64 ((rd_T39 x5_1 (ji16)).f0)) ∧ w'.cell? ⟨((⟨go27, (((ji16)).toNat * 3), none⟩ : Addr)).block, ((⟨go27, (((ji16)).toNat * 3), none⟩ : Addr)).off + 1, none⟩ = some (.int .i64 ((rd_T39 x5_1 (ji16)).f1)) ∧ w'.cell? ⟨((⟨go27, (((ji16)).toNat * 3), none⟩ : Addr)).block, ((⟨go27, (((ji16)).toNat * 3), none⟩ : Addr)).off + 2, none⟩ = some (.slice A344_2 ((rd_T39 x5_1 (ji16)).f2).length c344_2) ∧ w'.cell? ad345 = some (.string (rdOf ByteArray.empty x1_1 0))) (ds := [11, 14]) #[f_, f_, f_, f_, f_, f_, f_, f_, f_, f_, f_, f_, f_, f_, f_] (by kernel_rfl) rfl rfl ⟨hx344_0, hx344_1, hx344_2, hx345_0⟩ (fun hHeld => ?_); refine with_tabW impl_deltaOf.tab10 impl_deltaOf.bits10 (fun HT_ HW_ => ?_); generalize wr.drew = w26 at HO_1 HO_5 HL343_2 HR343_2 HB GG27 HH27 HL344_2 HR344_2 HX344_2 UU27 hx343_0 hx343_1 hx343_2 hx344_0 hx344_1 hx344_2 hx345_0 hHeld ⊢; refine pure_ (i := 0) (N := some 53) (v := ?_) (a' := ?_) #[t_, f_, f_, f_, f_, f_, f_, f_, f_, f_, f_, f_, f_, f_, f_] rfl rfl (any_of HT_.out (by kernel_rfl)) (fun _ _ _ h => h) (Or.inl ⟨by rfl, ?_⟩) ?_ ?_
            rotate_left
            ·intro w'; go_simp
             with_reducible rfl
            rotate_left
            ·simp only [Act.put, List.setIfInBounds_toArray, List.set_cons_zero, List.set_cons_succ, i64_w, i32_w]
             rfl
            refine pure_ (i := 1) (N := some 54) (v := ?_) (a' := ?_) #[t_, t_, f_, f_, f_, f_, f_, f_, f_, f_, f_, f_, f_, f_, f_] rfl rfl (any_of HT_.out (by kernel_rfl)) (fun _ _ _ h => h) (Or.inl ⟨by rfl, ?_⟩) ?_ ?_
            rotate_left
            ·intro w'; go_simp
             with_reducible rfl
            rotate_left
            ·simp only [Act.put, List.setIfInBounds_toArray, List.set_cons_zero, List.set_cons_succ, i64_w, i32_w]
             rfl
            refine pure_ (i := 2) (N := some 55) (v := ?_) (a' := ?_) #[t_, t_, t_, f_, f_, f_, f_, f_, f_, f_, f_, f_, f_, f_, f_] rfl rfl (any_of HT_.out (by kernel_rfl)) (fun _ _ _ h => h) (Or.inl ⟨by rfl, ?_⟩) ?_ ?_
            rotate_left
            ·intro w'; go_simp
             with_reducible rfl
            rotate_left
            ·simp only [Act.put, List.setIfInBounds_toArray, List.set_cons_zero, List.set_cons_succ, i64_w, i32_w]
             rfl
            refine pure_ (i := 3) (N := some 56) (v := ?_) (a' := ?_) #[t_, t_, t_, t_, f_, f_, f_, f_, f_, f_, f_, f_, f_, f_, f_] rfl rfl (any_of HT_.out (by kernel_rfl)) (fun _ _ _ h => h) (Or.inl ⟨by rfl, ?_⟩) ?_ ?_
            rotate_left
            ·intro w'; go_simp
             with_reducible rfl
            rotate_left
            ·simp only [Act.put, List.setIfInBounds_toArray, List.set_cons_zero, List.set_cons_succ, i64_w, i32_w]
             rfl
            refine pure_ (i := 4) (N := some 57) (v := ?_) (a' := ?_) #[t_, t_, t_, t_, t_, f_, f_, f_, f_, f_, f_, f_, f_, f_, f_] rfl rfl (any_of HT_.out (by kernel_rfl)) (fun _ _ _ h => h) (Or.inl ⟨by rfl, ?_⟩) ?_ ?_
            rotate_left
            ·intro w'; go_simp
             with_reducible rfl
            rotate_left
            ·simp only [Act.put, List.setIfInBounds_toArray, List.set_cons_zero, List.set_cons_succ, i64_w, i32_w]
             rfl
            refine pure_ (i := 5) (N := some 58) (v := ?_) (a' := ?_) #[t_, t_, t_, t_, t_, t_, f_, f_, f_, f_, f_, f_, f_, f_, f_] rfl rfl (any_of HT_.out (by kernel_rfl)) (fun _ _ _ h => h) (Or.inl ⟨by rfl, ?_⟩) ?_ ?_
            rotate_left
            ·intro w'; go_simp
             with_reducible rfl
            rotate_left
            ·simp only [Act.put, List.setIfInBounds_toArray, List.set_cons_zero, List.set_cons_succ, i64_w, i32_w]
             rfl
            refine pure_ (i := 7) (N := some 60) (v := ?_) (a' := ?_) #[t_, t_, t_, t_, t_, t_, f_, t_, f_, f_, f_, f_, f_, f_, f_] rfl rfl (any_of HT_.out (by kernel_rfl)) (fun _ _ _ h => h) (Or.inl ⟨by rfl, ?_⟩) ?_ ?_
            rotate_left
            ·intro w'; go_simp
             with_reducible rfl
            rotate_left
            ·simp only [Act.put, List.setIfInBounds_toArray, List.set_cons_zero, List.set_cons_succ, i64_w, i32_w]
             rfl
            refine pure_ (i := 8) (N := some 61) (v := ?_) (a' := ?_) #[t_, t_, t_, t_, t_, t_, f_, t_, t_, f_, f_, f_, f_, f_, f_] rfl rfl (any_of HT_.out (by kernel_rfl)) (fun _ _ _ h => h) (Or.inl ⟨by rfl, ?_⟩) ?_ ?_
            rotate_left
            ·intro w'; go_simp
             with_reducible rfl
            rotate_left
            ·simp only [Act.put, List.setIfInBounds_toArray, List.set_cons_zero, List.set_cons_succ, i64_w, i32_w]
             rfl
            refine take_ (i := 6) (N := some 59) (v := ?_) (a' := ?_) #[t_, t_, t_, t_, t_, t_, t_, t_, t_, f_, f_, f_, f_, f_, f_] rfl rfl (take_ofW HT_.out HW_.out (by kernel_rfl)) (fun _ _ _ h => h) (Or.inl ⟨by rfl, ?_⟩) hHeld ?_ ?_
            rotate_left
            ·rintro w' ⟨s0, s1, s2, s3⟩; go_simp
             with_reducible rfl
            rotate_left
            ·simp only [Act.put, List.setIfInBounds_toArray, List.set_cons_zero, List.set_cons_succ, i64_w, i32_w]
             rfl
            refine take_ (i := 9) (N := some 62) (v := ?_) (a' := ?_) #[t_, t_, t_, t_, t_, t_, t_, t_, t_, t_, f_, f_, f_, f_, f_] rfl rfl (take_ofW HT_.out HW_.out (by kernel_rfl)) (fun _ _ _ h => h) (Or.inl ⟨by rfl, ?_⟩) hHeld ?_ ?_
            rotate_left
            ·rintro w' ⟨s0, s1, s2, s3⟩; go_simp
             with_reducible rfl
            rotate_left
            ·simp only [Act.put, List.setIfInBounds_toArray, List.set_cons_zero, List.set_cons_succ, i64_w, i32_w]
             rfl
            refine one_ (i := 10) (N := some 63) #[t_, t_, t_, t_, t_, t_, t_, t_, t_, t_, t_, f_, f_, f_, f_] rfl rfl (one_of HT_.out (by kernel_rfl)) (by decide) (fun K hK => ?_); refine value_ (w1 := ?_) (v := ?_) (by rfl) rfl ?_ ?_
            rotate_left 2
            ·go_simp
             constructor
             ·rfl
             ·rfl
            refine hK.out _ _ ⟨(World.cell?_alloc_lt _ _ _ (World.block_lt_of_cell? _ _ (hHeld.1))).trans (hHeld.1), (World.cell?_alloc_lt _ _ _ (World.block_lt_of_cell? _ _ (hHeld.2.1))).trans (hHeld.2.1), (World.cell?_alloc_lt _ _ _ (World.block_lt_of_cell? _ _ (hHeld.2.2.1))).trans (hHeld.2.2.1), (World.cell?_alloc_lt _ _ _ (World.block_lt_of_cell? _ _ (hHeld.2.2.2))).trans (hHeld.2.2.2)⟩ (fun hHeld => ?_); clear hK K; refine norm_ (a' := ?_) ?_ ?_
            rotate_left
            ·show Act.put _ (some 63) _ = _
             simp only [Act.put, List.setIfInBounds_toArray, List.set_cons_zero, List.set_cons_succ, i64_w, i32_w]
             rfl
            refine last_ (i := 11) (N := some 64) #[t_, t_, t_, t_, t_, t_, t_, t_, t_, t_, t_, t_, f_, f_, f_] rfl rfl (one_of HT_.out (by kernel_rfl)) (by decide) (fun K hK => ?_); refine Kd.R_append_step Kd.string (w0 := w) w.heap.size (by rfl) (.tmp 59) (.tmp 63) 30 9 (.string ⟨#[]⟩) 16 rfl Try.underlying30 info9 rfl (by decide) (by omega) (.slice A344_2 ((rd_T39 x5_1 (ji16)).f2).length c344_2) ((rd_T39 x5_1 (ji16)).f2) (rdOf ByteArray.empty x1_1 0) [.string (rdOf ByteArray.empty x1_1 0)] (fun k_ => oki27 k_ ∨ ((fun k_ => (w.heap.size ≤ k_))) k_ ∧ w26.heap.size ≤ k_) (fun _ => False) rfl rfl ?aP (fun _ hk => hk.elim) ?aF ?aO ?aB ?aS ?aL ?_
            (case aP => exact rfl)
            (case aB => exact (by repeat (first | (with_reducible first | exact HB.out | apply below_alloc | apply pw_below_drewN | apply below_drew1) | exact HB.out)))
            (case aF => exact (fun k_ hk => .inr ⟨Nat.le_trans (below_size HB.out) hk, hk⟩))
            (case aO => exact (by (with_reducible repeat (first | apply Kd.R_alloc | apply Kd.R_drewN | apply Kd.R_drew)); exact Kd.R_mono UU27.out (fun _ hk => .inl hk)))
            (case aS => exact (below_size (by repeat (first | (with_reducible first | exact HB.out | apply below_alloc | apply pw_below_drewN | apply below_drew1) | exact HB.out))))
            (case aL => have := LMc21.out; omega)
            intro v347 w28 ho hb hg hat; rw [← Ny346.out] at ho; have n0_ := Aside0.mk (Kd.V_grown (by (with_reducible repeat (first | apply Kd.V_alloc | apply Kd.V_drewN | apply Kd.V_drew)); exact HO_1.out) hg (fun k_ hk_ e_ => (by have h1_ := Kd.R_base UU27.out k_ e_.symm; have h2_ := hk_.1.2; omega))); have n1_ := Aside0.mk (hb); have n2_ := Aside0.mk (Kd.H_grown (Kd.H_widen (by repeat (first | exact HH27.out | refine Kd.H_alloc ?_ _ | refine Kd.H_drewN ?_ _ | refine Kd.H_drew ?_))) hg (fun k_ e_ => .inl (UU27.out.1 k_ e_))); have n3_ := Aside0.mk (ho); clear HO_1; clear HB; clear HH27; clear HO_5; clear UU27; clear HL343_2; clear HL344_2; have HO_1 := n0_; have HB := n1_; have HH27 := n2_; have HO348 := n3_; clear n0_ n1_ n2_ n3_; clear ho hb hg hat; have p22 : 0 ≤ ((ji16) : Int) := of_decide_eq_true (by assumption); have q22 : ((ji16) : Int) < ((x5_1.length : Int) : Int) := of_decide_eq_true (by assumption); replace p22 := eq_true p22; replace q22 := eq_true q22; obtain ⟨Ao31, co31, eo31⟩ := Kd.R_slice HO348.out
            (first | subst eo31 | (injection eo31 with f1_ f2_ f3_; have f4_ := f1_.symm; have f5_ := f3_.symm; clear f1_ f2_ f3_; subst f4_; subst f5_))
            obtain ⟨_, _, hraw29, _, _, hcc29, _⟩ := Kd.H_raw HH27.out (of_decide_eq_true (by assumption)) (by have h_ : ((ji16) : Int) < ((x5_1.length : Int) : Int) := of_decide_eq_true (by assumption); first | exact h_ | (have e_ := (HN27.out); omega) | simpa using h_); obtain ⟨_, hfr29⟩ := Kd.H_at HH27.out (of_decide_eq_true (by assumption)) (by have h_ : ((ji16) : Int) < ((x5_1.length : Int) : Int) := of_decide_eq_true (by assumption); first | exact h_ | (have e_ := (HN27.out); omega) | simpa using h_); have hx29_0 := hcc29 2 _ rfl; have hf29_0 := hfr29 2
            (try rw [show (k39).sz = 3 from rfl] at hx29_0)
            (try rw [show (k39).sz = 3 from rfl] at hf29_0)
            have HP29 := Kd.S_seg0 HH27.out (of_decide_eq_true (by assumption)) (by have h_ : ((ji16) : Int) < ((x5_1.length : Int) : Int) := of_decide_eq_true (by assumption); first | exact h_ | (have e_ := (HN27.out); omega) | simpa using h_) (seg := [.slice Ao31 y346.length co31]) (j := 2) (show 3 ≤ 3 from by decide) (x' := (⟨(rd_T39 x5_1 (ji16)).f0, (rd_T39 x5_1 (ji16)).f1, y346⟩ : S39)) (k39_mkM _ _ _ (⟨(rd_T39 x5_1 (ji16)).f0, (rd_T39 x5_1 (ji16)).f1, y346⟩ : S39) HO348.out) (fun _ hk => hk); clear hcc29 hfr29; have HS29 := HP29.1; rw [← Ny349.out] at HS29; have HQ29 := Aside0.mk HS29; obtain ⟨_, hgg29⟩ := Kd.R_typed hraw29 go27 rfl; have GG29_ := Aside0.mk hgg29; clear HP29 HS29 hgg29; refine hK.out _ _ ?_; clear hK K; refine norm_ (a' := ?_) ?_ ?_
            rotate_left
            ·show Act.put _ (some 64) _ = _
             simp only [Act.put, List.setIfInBounds_toArray, List.set_cons_zero, List.set_cons_succ, i64_w, i32_w]
             rfl
            refine pure_ (i := 12) (N := some 65) (v := ?_) (a' := ?_) #[t_, t_, t_, t_, t_, t_, t_, t_, t_, t_, t_, t_, t_, f_, f_] rfl rfl (any_of HT_.out (by kernel_rfl)) (fun _ _ _ h => h) (Or.inl ⟨by rfl, ?_⟩) ?_ ?_
            rotate_left
            ·intro w'; go_simp
             with_reducible rfl
            rotate_left
            ·simp only [Act.put, List.setIfInBounds_toArray, List.set_cons_zero, List.set_cons_succ, i64_w, i32_w]
             rfl
            refine pure_ (i := 13) (N := some 66) (v := ?_) (a' := ?_) #[t_, t_, t_, t_, t_, t_, t_, t_, t_, t_, t_, t_, t_, t_, f_] rfl rfl (any_of HT_.out (by kernel_rfl)) (fun _ _ _ h => h) (Or.inl ⟨by rfl, ?_⟩) ?_ ?_
            rotate_left
            ·intro w'; go_simp
             with_reducible rfl
            rotate_left
            ·simp only [Act.put, List.setIfInBounds_toArray, List.set_cons_zero, List.set_cons_succ, i64_w, i32_w]
             rfl
            refine last_ (i := 14) (N := none) #[t_, t_, t_, t_, t_, t_, t_, t_, t_, t_, t_, t_, t_, t_, t_] rfl rfl (one_of HT_.out (by kernel_rfl)) (by decide) (fun K hK => ?_); refine skip_ (w1 := ?_) (by rfl) rfl ?_ ?_
            rotate_left
            ·go_simp
             rfl
            refine hK.out _ _ ?_; clear hK K; refine done_ (done_of HT_.out (by kernel_rfl)) ?_; have n0_ : Aside0 (Kd.V Kd.string 9 (w28.setCell ⟨go27, ((ji16) : Int).toNat * 3 + 2, none⟩ (.slice Ao31 y346.length co31)) w.heap.size (fun k_ => (P1_ k_ ∧ k_ < w.heap.size) ∧ some k_ ≠ (.slice (some ⟨go27, 0, none⟩) x5_1.length co25 : Value).ownBlock) (.slice (some ad345) x1_1.length co24) x1_1) := ⟨by (with_reducible repeat (first | apply Kd.V_alloc | apply Kd.V_drewN | apply Kd.V_drew)); exact Kd.V_mono (Kd.V_far (p := ⟨go27, ((ji16) : Int).toNat * 3 + 2, none⟩) (Kd.V_mono HO_1.out (fun k_ hk => (⟨hk, fun e_ => hk.2 (by rw [e_]; rfl)⟩ : _ ∧ k_ ≠ go27))) (fun _ hk => hk.2) (.slice Ao31 y346.length co31)) (fun _ hk => ⟨hk.1.1, hk.1.2⟩)⟩; have n1_ : Aside0 (Kd.S k39 39 (w28.setCell ⟨go27, ((ji16) : Int).toNat * 3 + 2, none⟩ (.slice Ao31 y346.length co31)) w.heap.size (fun k_ => (w.heap.size ≤ k_)) (.slice (some ⟨go27, 0, none⟩) x5_1.length co25) y349) := ⟨by (with_reducible repeat (first | apply Kd.S_alloc | apply Kd.S_drewN | apply Kd.S_drew)); exact HQ29.out⟩; have n2_ : Aside0 (Below w.heap.size w (w28.setCell ⟨go27, ((ji16) : Int).toNat * 3 + 2, none⟩ (.slice Ao31 y346.length co31))) := ⟨by repeat (first | (with_reducible first | exact HB.out | apply below_alloc | apply pw_below_drewN | apply below_drew1 | refine below_set ?_ GB27.out) | exact HB.out)⟩
            (try clear HO_1)
            (try clear HO_5)
            (try clear HB)
            generalize (w28.setCell ⟨go27, ((ji16) : Int).toNat * 3 + 2, none⟩ (.slice Ao31 y346.length co31)) = w32 at n0_ n1_ n2_ ⊢; have HO_1 := n0_; have HO_5 := n1_; have HB := n2_; clear n0_ n1_ n2_; have q33 : (1 : Int) ≤ ((x1_1.length : Int) : Int) := of_decide_eq_true (by assumption); obtain ⟨i033, hi033, _, hsz33, _⟩ := info_parts info9; have hroom33 : x1_1.length ≤ co24 := (Kd.V_reads' HO_1.out).2.1; have hC33 : Kd.F Kd.string _ _ (some ad345) x1_1.length x1_1 := (Kd.V_at (base := w.heap.size) HO_1.out).2.2; have hcut33 := cut_from (P := Try.prog) 30 9 .i64 Try.underlying30 hi033 1 hsz33 (some ad345) x1_1.length co24 1 (by omega) q33; have hr33 := Kd.F_cut (m := (1 : Int).toNat) (c := co24) hC33 (by omega) hroom33; obtain ⟨A33, hA33⟩ : ∃ A1, A1 = (if co24 = (1 : Int).toNat then (some ad345) else ((some ad345) : Option Addr).map (·.add ((1 : Int).toNat * 1))) := ⟨_, rfl⟩; obtain ⟨c33, hc33⟩ : ∃ c1, c1 = co24 - (1 : Int).toNat := ⟨_, rfl⟩; have hy33 : y350.length = x1_1.length - (1 : Int).toNat := (by rw [Ny350.out, List.length_drop] <;> omega); rw [show (x1_1).drop (1 : Int).toNat = y350 from Ny350.out.symm] at hr33; replace hr33 : Kd.F Kd.string _ _ A33 y350.length y350 := (by rw [hA33]; exact hr33); rw [← hy33, ← hA33, ← hc33] at hcut33; have HO354 := Aside0.mk (show Kd.V Kd.string 9 _ w.heap.size _ (.slice A33 y350.length c33) y350 from Kd.V_mk (by rw [hy33, hc33]; exact Nat.sub_le_sub_right hroom33 _) hr33); have HC354 := Aside0.mk (show y350.length ≤ c33 from by rw [hy33, hc33]; exact Nat.sub_le_sub_right hroom33 _); clear hr33 hC33 hroom33 hi033 hsz33 hc33; have KY33 := Aside0.mk hy33; have KA33 := Aside0.mk hA33; clear hy33 hA33; replace q33 := eq_true q33; (try go_wp2); go_roundg k1
            case measure => have := HK1.out; omega
            case rel => exact ⟨(y350), (y349), H', ⟨by have := HK1.out; omega⟩, ⟨by (with_reducible repeat (first | apply Kd.V_alloc | apply Kd.V_drewN | apply Kd.V_drew)); exact HO354.out⟩, ⟨by (with_reducible repeat (first | apply Kd.S_alloc | apply Kd.S_drewN | apply Kd.S_drew)); exact HO_5.out⟩, ⟨by repeat (first | (with_reducible first | exact HB.out | apply below_alloc | apply pw_below_drewN | apply below_drew1) | exact HB.out)⟩⟩
           ·rw [if_neg c23] at H; exact absurd H (by simp)
          ·rw [if_neg c21] at H; exact absurd H (by simp)
         ·rw [if_neg c20] at H; exact absurd H (by simp)
        ·rw [if_neg c19] at H; have c19b0 : (((rd_T39 x5_1 (ji16)).f1) == 0) = false := beq_eq_false_iff_ne.mpr c19; have c19b1 : (((rd_T39 x5_1 (ji16)).f1) != 0) = true := bne_iff_ne.mpr c19; by_cases c34 : 0 < (x1_1.length : Int)
         ·rw [if_pos c34] at H; have c34b0 : decide (0 < (x1_1.length : Int)) = true := decide_eq_true c34; have c34b1 : decide (0 < x1_1.length) = true := decide_eq_true (by omega); clear c34; obtain ⟨y356, hy356⟩ : ∃ y_ : List ByteArray, y_ = (([rdOf ByteArray.empty x1_1 0] : List ByteArray)) := ⟨_, rfl⟩; (replace H : (if x5_1.length < 3518437208883 then (if 1 ≤ (x1_1.length : Int) then (impl_deltaOf.l0 k1 l0 (x1_1.drop 1) (x5_1 ++ [(⟨0, 0, y356⟩ : S39)])) else (none)) else (none)) = some r := by first | (rw [hy356]; with_reducible exact H) | (have H2_ := (Option.bind_some _ _).symm.trans H; rw [hy356]; with_reducible exact H2_) | (have H2_ := (Option.bind_some _ _).symm.trans H; with_reducible exact H2_) | with_reducible exact H | (rw [hy356]; exact H) | exact H); have Ny356 := Aside0.mk hy356; clear hy356; by_cases c35 : x5_1.length < 3518437208883
          ·rw [if_pos c35] at H; have LMc35 := Aside0.mk c35; clear c35; obtain ⟨y359, hy359⟩ : ∃ y_ : List (S39), y_ = (x5_1 ++ [(⟨0, 0, y356⟩ : S39)]) := ⟨_, rfl⟩; (replace H : (if 1 ≤ (x1_1.length : Int) then (impl_deltaOf.l0 k1 l0 (x1_1.drop 1) y359) else (none)) = some r := by first | (rw [hy359]; with_reducible exact H) | (have H2_ := (Option.bind_some _ _).symm.trans H; rw [hy359]; with_reducible exact H2_) | (have H2_ := (Option.bind_some _ _).symm.trans H; with_reducible exact H2_) | with_reducible exact H | (rw [hy359]; exact H) | exact H); have Ny359 := Aside0.mk hy359; clear hy359; by_cases c36 : 1 ≤ (x1_1.length : Int)
           ·rw [if_pos c36] at H; have c36b0 := eq_true c36; have c36b1 : decide (1 ≤ (x1_1.length : Int)) = true := decide_eq_true c36; clear c36; obtain ⟨y362, hy362⟩ : ∃ y_ : List ByteArray, y_ = (x1_1.drop 1) := ⟨_, rfl⟩; (replace H : (impl_deltaOf.l0 k1 l0 y362 y359) = some r := by first | (rw [hy362]; with_reducible exact H) | (have H2_ := (Option.bind_some _ _).symm.trans H; rw [hy362]; with_reducible exact H2_) | (have H2_ := (Option.bind_some _ _).symm.trans H; with_reducible exact H2_) | with_reducible exact H | (rw [hy362]; exact H) | exact H); have Ny362 := Aside0.mk hy362; clear hy362; have H' := Aside0.mk H; clear H; obtain ⟨Ao37, co37, eo37⟩ := Kd.V_slice HO_1.out; subst eo37; go_wp2_with (first | ((with_reducible refine gate_callee (f := 102) rfl ?_); refine goesL_ (some 16) rfl rfl Try.func102 (by kernel_rfl) rfl #[.slice A0 l0.length c0, .slice Ao37 x1_1.length co37] rfl (by (try simp only [List.map_toArray, List.map_cons, List.map_nil]); first | done | rfl | (simp only [List.length_drop, List.length_take]; rfl)) ?_; (with_reducible refine (impl_longestRun.calls k1 _ _ l0 _ _ x1_1 t333 t334 _ ?side1 ?side2 ?side3 ?side4 A6.out).mono ?_); (case side1 => repeat (first | exact (Kd.C_below HR0.out HB.out) | (with_reducible refine Kd.C_alloc ?_ _) | (with_reducible refine Kd.C_drewN ?_ _) | (with_reducible refine Kd.C_drew ?_))); (case side2 => exact HC0.out); (case side3 => repeat (first | exact (Kd.V_reads' HO_1.out).2.2 | (with_reducible refine Kd.C_alloc ?_ _) | (with_reducible refine Kd.C_drewN ?_ _) | (with_reducible refine Kd.C_drew ?_))); (case side4 => exact (Kd.V_reads' HO_1.out).2.1); rintro e w' ⟨rfl, ⟨nd, rfl⟩⟩; refine ⟨_, rfl, ?_⟩; obtain ⟨Ao38, co38, eo38⟩ := Kd.S_slice HO_5.out; subst eo38; have p343 : 0 ≤ ((ji16) : Int) := of_decide_eq_true (by assumption); have q343 : (ji16) < (x5_1.length : Int) := of_decide_eq_true (by assumption); obtain ⟨ad343, A343_2, c343_2, e343, hx343_0, hx343_1, hx343_2, hl343_2, hi343_2⟩ := at_T39 (Kd.S_reads' HO_5.out).2.2 (ji16) p343 q343; cases e343; obtain ⟨ce343, hce343, hMe343, hcc343⟩ := Kd.S_get HO_5.out z39 (ji16) p343 (by first | exact q343 | exact of_decide_eq_true (by assumption) | (have e_ := (Kd.S_reads' HO_5.out).1; omega)); obtain ⟨ve343_2, rfl, ge343_2⟩ := k39_openM hMe343; have hv343_2 := hcc343 2 _ rfl; rw [add_field _ _ 2 (by omega)] at hv343_2; replace hv343_2 := Option.some.inj (hv343_2.symm.trans hx343_2); rw [hv343_2] at ge343_2; have HL343_2 := Aside0.mk (show Kd.R Kd.string 9 _ _ _ _ ((rd_T39 x5_1 (ji16)).f2) from ge343_2); clear hv343_2 ge343_2; have HX343_2 := Aside0.mk hx343_2; clear hcc343 hce343; have HR343_2 := Aside0.mk hi343_2; have HC343_2 := Aside0.mk hl343_2; clear hi343_2 hl343_2; replace p343 := eq_true p343; replace q343 := eq_true q343; have p355 : 0 ≤ (0 : Int) := (by omega); have q355 : 0 < (x1_1.length : Int) := of_decide_eq_true (by assumption); obtain ⟨ad355, e355, hx355_0⟩ := Kd.at_string (Kd.V_reads' HO_1.out).2.2 0 p355 q355; cases e355; have qi355 : (0 < x1_1.length) = True := eq_true (by omega); (try rw [show ((0 : Int)).toNat = 0 from rfl] at hx355_0); (try rw [Addr.add_zero'] at hx355_0); replace p355 := eq_true p355; replace q355 := eq_true q355) | ((with_reducible refine gate_dst (N := 26) rfl ?_); refine Kd.R_lit Kd.string _ 9 ?hg (N := 26) ?hd (xs := ([rdOf ByteArray.empty x1_1 0] : List ByteArray)) (inner := [.string (rdOf ByteArray.empty x1_1 0)]) (ok := fun _ => True) (okp := fun _ => True) ?hr ?hp (fun _ hk => hk) trivial (Below.refl _ _) (Nat.le_refl _) (by simp) ?_; (case hd => rfl); (case hg => rfl); (case hr => first | (go_simp; done) | (go_simp; rfl)); (case hp => exact (Reps.one (show Kd.M Kd.string _ _ _ (rdOf ByteArray.empty x1_1 0) [.string (rdOf ByteArray.empty x1_1 0)] from rfl) (Reps.none _ _))); intro v357 w39 ho40 hb hg_ hnew_; clear hg_ hnew_; (first | rw [← Ny356.out] at ho40 | (simp only [Int.reduceToNat] at ho40; rw [← Ny356.out] at ho40)); have n0_ := Aside0.mk (Kd.V_elder' (by (with_reducible repeat (first | apply Kd.V_alloc | apply Kd.V_drewN | apply Kd.V_drew)); exact HO_1.out) (Kd.R_base ho40) hb); have n1_ := Aside0.mk (Kd.S_elder' (by (with_reducible repeat (first | apply Kd.S_alloc | apply Kd.S_drewN | apply Kd.S_drew)); exact HO_5.out) (Kd.R_base ho40) hb); have n2_ := Aside0.mk (Kd.R_elder' (by (with_reducible repeat (first | apply Kd.R_alloc | apply Kd.R_drewN | apply Kd.R_drew)); exact HL343_2.out) (Kd.R_base ho40) hb); have n3_ := Aside0.mk (Kd.R_lower (Kd.R_new' (Kd.R_newM (M := fun k_ => (w.heap.size ≤ k_)) ho40 (below_size (by repeat (first | (with_reducible first | exact HB.out | apply below_alloc | apply pw_below_drewN | apply below_drew1) | exact HB.out))) (fun k_ h_ => h_)) (Kd.R_lt (by (with_reducible repeat (first | apply Kd.R_alloc | apply Kd.R_drewN | apply Kd.R_drew)); exact HL343_2.out))) (below_size (by repeat (first | (with_reducible first | exact HB.out | apply below_alloc | apply pw_below_drewN | apply below_drew1) | exact HB.out)))); have n4_ := Aside0.mk (Kd.C_below (by repeat (first | (with_reducible exact HR343_2.out) | (with_reducible refine Kd.C_alloc ?_ _) | (with_reducible refine Kd.C_drewN ?_ _) | (with_reducible refine Kd.C_drew ?_) | exact HR343_2.out)) hb); have n5_ := Aside0.mk (pw_cell_below hb HX343_2.out); have n6_ := Aside0.mk (below_step (by repeat (first | (with_reducible first | exact HB.out | apply below_alloc | apply pw_below_drewN | apply below_drew1) | exact HB.out)) hb); clear HO_1; clear HO_5; clear HL343_2; clear HR343_2; clear HX343_2; clear HB; have HO_1 := n0_; have HO_5 := n1_; have HL343_2 := n2_; have HO358 := n3_; have HR343_2 := n4_; have HX343_2 := n5_; have HB := n6_; clear n0_ n1_ n2_ n3_ n4_ n5_ n6_; clear hb ho40; obtain ⟨Ao41, co41, eo41⟩ := Kd.R_slice HO358.out; subst eo41) | ((with_reducible refine gate_builtin (b := .append) (xs := #[.tmp 22, .tmp 28]) rfl ?_); at_builtin; refine Kd.S_append k39 (w0 := w) w.heap.size rfl (.tmp 22) (.tmp 28) 25 39 (.agg #[(.int .i64 0), (.int .i64 0), (.slice none 0 0)]) 40 rfl Try.underlying25 info39 rfl (by decide) (by omega) (.slice (some ad343) x5_1.length co38) x5_1 (⟨0, 0, y356⟩ : S39) [.int .i64 0, .int .i64 0, .slice Ao41 y356.length co41] (fun k_ => (w.heap.size ≤ k_)) (fun k_ => some k_ = (.slice Ao41 y356.length co41 : Value).ownBlock) rfl rfl ?aP (fun k_ hk_ => ((Kd.R_mono (ok' := fun k_ => ((fun k_ => (w.heap.size ≤ k_))) k_ ∧ some k_ ≠ (.slice (some ad343) x5_1.length co38 : Value).ownBlock) (Kd.R_apart' (HO358.out) (Kd.S_typed HO_5.out) (by decide)) (fun k_ hk => ⟨hk.1.1.1, hk.2⟩))).1 k_ hk_.symm) ?aF ?aO ?aB ?aS ?aL ?_; (case aP => exact k39_mkM _ _ _ (⟨0, 0, y356⟩ : S39) (Kd.R_mono (Kd.R_tight rfl (Kd.R_mono (ok' := fun k_ => ((fun k_ => (w.heap.size ≤ k_))) k_ ∧ some k_ ≠ (.slice (some ad343) x5_1.length co38 : Value).ownBlock) (Kd.R_apart' (HO358.out) (Kd.S_typed HO_5.out) (by decide)) (fun k_ hk => ⟨hk.1.1.1, hk.2⟩))) (fun _ h_ => h_))); (case aB => exact (by repeat (first | (with_reducible first | exact HB.out | apply below_alloc | apply pw_below_drewN | apply below_drew1) | exact HB.out))); (case aF => exact (fun k_ hk => (Nat.le_trans (below_size (by repeat (first | (with_reducible first | exact HB.out | apply below_alloc | apply pw_below_drewN | apply below_drew1) | exact HB.out))) hk))); (case aO => exact (by (with_reducible repeat (first | apply Kd.S_alloc | apply Kd.S_drewN | apply Kd.S_drew)); exact Kd.S_mono HO_5.out (fun k_ hk => ⟨hk.1, fun e_ => hk.2 e_⟩))); (case aS => exact (below_size (by repeat (first | (with_reducible first | exact HB.out | apply below_alloc | apply pw_below_drewN | apply below_drew1) | exact HB.out)))); (case aL => have := LMc35.out; omega); intro v360 w42 ho hb hg hat; rw [← Ny359.out] at ho; have n0_ := Aside0.mk (Kd.V_afterv (ok := (fun k_ => (P1_ k_ ∧ k_ < w.heap.size) ∧ some k_ ≠ (.slice Ao41 y356.length co41 : Value).ownBlock)) (by (with_reducible repeat (first | apply Kd.V_alloc | apply Kd.V_drewN | apply Kd.V_drew)); exact Kd.V_mono HO_1.out (fun _ hk => ⟨⟨hk.1.1, hk.2⟩, hk.1.2⟩)) hg hat); have n1_ := Aside0.mk (Kd.R_after (ok := (fun k_ => (w.heap.size ≤ k_) ∧ some k_ ≠ (.slice Ao41 y356.length co41 : Value).ownBlock)) (by (with_reducible repeat (first | apply Kd.R_alloc | apply Kd.R_drewN | apply Kd.R_drew)); exact Kd.R_mono HL343_2.out (fun _ hk => ⟨⟨hk.1.1, hk.2⟩, hk.1.2⟩)) hg hat); have n2_ := Aside0.mk (hb); have n3_ := Aside0.mk (ho); clear HO_1; clear HL343_2; clear HB; clear HO_5; clear HO358; have HO_1 := n0_; have HL343_2 := n1_; have HB := n2_; have HO361 := n3_; clear n0_ n1_ n2_ n3_; clear ho hb hg hat; have q43 : (1 : Int) ≤ ((x1_1.length : Int) : Int) := of_decide_eq_true (by assumption); obtain ⟨i043, hi043, _, hsz43, _⟩ := info_parts info9; have hroom43 : x1_1.length ≤ co37 := (Kd.V_reads' HO_1.out).2.1; have hC43 : Kd.F Kd.string _ _ (some ad355) x1_1.length x1_1 := (Kd.V_at (base := w.heap.size) HO_1.out).2.2; have hcut43 := cut_from (P := Try.prog) 30 9 .i64 Try.underlying30 hi043 1 hsz43 (some ad355) x1_1.length co37 1 (by omega) q43; have hr43 := Kd.F_cut (m := (1 : Int).toNat) (c := co37) hC43 (by omega) hroom43; obtain ⟨A43, hA43⟩ : ∃ A1, A1 = (if co37 = (1 : Int).toNat then (some ad355) else ((some ad355) : Option Addr).map (·.add ((1 : Int).toNat * 1))) := ⟨_, rfl⟩; obtain ⟨c43, hc43⟩ : ∃ c1, c1 = co37 - (1 : Int).toNat := ⟨_, rfl⟩; have hy43 : y362.length = x1_1.length - (1 : Int).toNat := (by rw [Ny362.out, List.length_drop] <;> omega); rw [show (x1_1).drop (1 : Int).toNat = y362 from Ny362.out.symm] at hr43; replace hr43 : Kd.F Kd.string _ _ A43 y362.length y362 := (by rw [hA43]; exact hr43); rw [← hy43, ← hA43, ← hc43] at hcut43; have HO366 := Aside0.mk (show Kd.V Kd.string 9 _ w.heap.size _ (.slice A43 y362.length c43) y362 from Kd.V_mk (by rw [hy43, hc43]; exact Nat.sub_le_sub_right hroom43 _) hr43); have HC366 := Aside0.mk (show y362.length ≤ c43 from by rw [hy43, hc43]; exact Nat.sub_le_sub_right hroom43 _); clear hr43 hC43 hroom43 hi043 hsz43 hc43; have KY43 := Aside0.mk hy43; have KA43 := Aside0.mk hA43; clear hy43 hA43; replace q43 := eq_true q43))
            go_roundg k1
            case measure => have := HK1.out; omega
            case rel => exact ⟨(y362), (y359), H', ⟨by have := HK1.out; omega⟩, ⟨by (with_reducible repeat (first | apply Kd.V_alloc | apply Kd.V_drewN | apply Kd.V_drew)); exact Kd.V_mono HO366.out (fun _ hk => ⟨hk.1.1, hk.2⟩)⟩, ⟨by (with_reducible repeat (first | apply Kd.S_alloc | apply Kd.S_drewN | apply Kd.S_drew)); exact HO361.out⟩, ⟨by repeat (first | (with_reducible first | exact HB.out | apply below_alloc | apply pw_below_drewN | apply below_drew1) | exact HB.out)⟩⟩
           ·rw [if_neg c36] at H; exact absurd H (by simp)
          ·rw [if_neg c35] at H; exact absurd H (by simp)
         ·rw [if_neg c34] at H; exact absurd H (by simp)
       ·rw [if_neg c18] at H; exact absurd H (by simp)
      ·rw [if_neg c17] at H; exact absurd H (by simp)
     ·rw [if_neg c15] at H; have c15b0 : decide (0 ≤ (wrap64 ((x5_1.length : Int) - 1))) = false := decide_eq_false c15; clear c15; by_cases c44 : 0 < (x1_1.length : Int)
      ·rw [if_pos c44] at H; have c44b0 : decide (0 < (x1_1.length : Int)) = true := decide_eq_true c44; have c44b1 : decide (0 < x1_1.length) = true := decide_eq_true (by omega); clear c44; obtain ⟨y368, hy368⟩ : ∃ y_ : List ByteArray, y_ = (([rdOf ByteArray.empty x1_1 0] : List ByteArray)) := ⟨_, rfl⟩; (replace H : (if x5_1.length < 3518437208883 then (if 1 ≤ (x1_1.length : Int) then (impl_deltaOf.l0 k1 l0 (x1_1.drop 1) (x5_1 ++ [(⟨0, 0, y368⟩ : S39)])) else (none)) else (none)) = some r := by first | (rw [hy368]; with_reducible exact H) | (have H2_ := (Option.bind_some _ _).symm.trans H; rw [hy368]; with_reducible exact H2_) | (have H2_ := (Option.bind_some _ _).symm.trans H; with_reducible exact H2_) | with_reducible exact H | (rw [hy368]; exact H) | exact H); have Ny368 := Aside0.mk hy368; clear hy368; by_cases c45 : x5_1.length < 3518437208883
       ·rw [if_pos c45] at H; have LMc45 := Aside0.mk c45; clear c45; obtain ⟨y371, hy371⟩ : ∃ y_ : List (S39), y_ = (x5_1 ++ [(⟨0, 0, y368⟩ : S39)]) := ⟨_, rfl⟩; (replace H : (if 1 ≤ (x1_1.length : Int) then (impl_deltaOf.l0 k1 l0 (x1_1.drop 1) y371) else (none)) = some r := by first | (rw [hy371]; with_reducible exact H) | (have H2_ := (Option.bind_some _ _).symm.trans H; rw [hy371]; with_reducible exact H2_) | (have H2_ := (Option.bind_some _ _).symm.trans H; with_reducible exact H2_) | with_reducible exact H | (rw [hy371]; exact H) | exact H); have Ny371 := Aside0.mk hy371; clear hy371; by_cases c46 : 1 ≤ (x1_1.length : Int)
        ·rw [if_pos c46] at H; have c46b0 := eq_true c46; have c46b1 : decide (1 ≤ (x1_1.length : Int)) = true := decide_eq_true c46; clear c46; obtain ⟨y374, hy374⟩ : ∃ y_ : List ByteArray, y_ = (x1_1.drop 1) := ⟨_, rfl⟩; (replace H : (impl_deltaOf.l0 k1 l0 y374 y371) = some r := by first | (rw [hy374]; with_reducible exact H) | (have H2_ := (Option.bind_some _ _).symm.trans H; rw [hy374]; with_reducible exact H2_) | (have H2_ := (Option.bind_some _ _).symm.trans H; with_reducible exact H2_) | with_reducible exact H | (rw [hy374]; exact H) | exact H); have Ny374 := Aside0.mk hy374; clear hy374; have H' := Aside0.mk H; clear H; obtain ⟨Ao47, co47, eo47⟩ := Kd.V_slice HO_1.out; subst eo47; go_wp2_with (first | ((with_reducible refine gate_callee (f := 102) rfl ?_); refine goesL_ (some 16) rfl rfl Try.func102 (by kernel_rfl) rfl #[.slice A0 l0.length c0, .slice Ao47 x1_1.length co47] rfl (by (try simp only [List.map_toArray, List.map_cons, List.map_nil]); first | done | rfl | (simp only [List.length_drop, List.length_take]; rfl)) ?_; (with_reducible refine (impl_longestRun.calls k1 _ _ l0 _ _ x1_1 t333 t334 _ ?side1 ?side2 ?side3 ?side4 A6.out).mono ?_); (case side1 => repeat (first | exact (Kd.C_below HR0.out HB.out) | (with_reducible refine Kd.C_alloc ?_ _) | (with_reducible refine Kd.C_drewN ?_ _) | (with_reducible refine Kd.C_drew ?_))); (case side2 => exact HC0.out); (case side3 => repeat (first | exact (Kd.V_reads' HO_1.out).2.2 | (with_reducible refine Kd.C_alloc ?_ _) | (with_reducible refine Kd.C_drewN ?_ _) | (with_reducible refine Kd.C_drew ?_))); (case side4 => exact (Kd.V_reads' HO_1.out).2.1); rintro e w' ⟨rfl, ⟨nd, rfl⟩⟩; refine ⟨_, rfl, ?_⟩; obtain ⟨Ao48, co48, eo48⟩ := Kd.S_slice HO_5.out; subst eo48; have p367 : 0 ≤ (0 : Int) := (by omega); have q367 : 0 < (x1_1.length : Int) := of_decide_eq_true (by assumption); obtain ⟨ad367, e367, hx367_0⟩ := Kd.at_string (Kd.V_reads' HO_1.out).2.2 0 p367 q367; cases e367; have qi367 : (0 < x1_1.length) = True := eq_true (by omega); (try rw [show ((0 : Int)).toNat = 0 from rfl] at hx367_0); (try rw [Addr.add_zero'] at hx367_0); replace p367 := eq_true p367; replace q367 := eq_true q367) | ((with_reducible refine gate_dst (N := 26) rfl ?_); refine Kd.R_lit Kd.string _ 9 ?hg (N := 26) ?hd (xs := ([rdOf ByteArray.empty x1_1 0] : List ByteArray)) (inner := [.string (rdOf ByteArray.empty x1_1 0)]) (ok := fun _ => True) (okp := fun _ => True) ?hr ?hp (fun _ hk => hk) trivial (Below.refl _ _) (Nat.le_refl _) (by simp) ?_; (case hd => rfl); (case hg => rfl); (case hr => first | (go_simp; done) | (go_simp; rfl)); (case hp => exact (Reps.one (show Kd.M Kd.string _ _ _ (rdOf ByteArray.empty x1_1 0) [.string (rdOf ByteArray.empty x1_1 0)] from rfl) (Reps.none _ _))); intro v369 w49 ho50 hb hg_ hnew_; clear hg_ hnew_; (first | rw [← Ny368.out] at ho50 | (simp only [Int.reduceToNat] at ho50; rw [← Ny368.out] at ho50)); have n0_ := Aside0.mk (Kd.V_elder' (by (with_reducible repeat (first | apply Kd.V_alloc | apply Kd.V_drewN | apply Kd.V_drew)); exact HO_1.out) (Kd.R_base ho50) hb); have n1_ := Aside0.mk (Kd.S_elder' (by (with_reducible repeat (first | apply Kd.S_alloc | apply Kd.S_drewN | apply Kd.S_drew)); exact HO_5.out) (Kd.R_base ho50) hb); have n2_ := Aside0.mk (Kd.R_lower (Kd.R_newM (M := fun k_ => (w.heap.size ≤ k_)) ho50 (below_size (by repeat (first | (with_reducible first | exact HB.out | apply below_alloc | apply pw_below_drewN | apply below_drew1) | exact HB.out))) (fun k_ h_ => h_)) (below_size (by repeat (first | (with_reducible first | exact HB.out | apply below_alloc | apply pw_below_drewN | apply below_drew1) | exact HB.out)))); have n3_ := Aside0.mk (below_step (by repeat (first | (with_reducible first | exact HB.out | apply below_alloc | apply pw_below_drewN | apply below_drew1) | exact HB.out)) hb); clear HO_1; clear HO_5; clear HB; have HO_1 := n0_; have HO_5 := n1_; have HO370 := n2_; have HB := n3_; clear n0_ n1_ n2_ n3_; clear hb ho50; obtain ⟨Ao51, co51, eo51⟩ := Kd.R_slice HO370.out; subst eo51) | ((with_reducible refine gate_builtin (b := .append) (xs := #[.tmp 22, .tmp 28]) rfl ?_); at_builtin; refine Kd.S_append k39 (w0 := w) w.heap.size rfl (.tmp 22) (.tmp 28) 25 39 (.agg #[(.int .i64 0), (.int .i64 0), (.slice none 0 0)]) 40 rfl Try.underlying25 info39 rfl (by decide) (by omega) (.slice Ao48 x5_1.length co48) x5_1 (⟨0, 0, y368⟩ : S39) [.int .i64 0, .int .i64 0, .slice Ao51 y368.length co51] (fun k_ => (w.heap.size ≤ k_)) (fun k_ => some k_ = (.slice Ao51 y368.length co51 : Value).ownBlock) rfl rfl ?aP (fun k_ hk_ => ((Kd.R_mono (ok' := fun k_ => ((fun k_ => (w.heap.size ≤ k_))) k_ ∧ some k_ ≠ (.slice Ao48 x5_1.length co48 : Value).ownBlock) (Kd.R_apart' (HO370.out) (Kd.S_typed HO_5.out) (by decide)) (fun k_ hk => ⟨hk.1.1, hk.2⟩))).1 k_ hk_.symm) ?aF ?aO ?aB ?aS ?aL ?_; (case aP => exact k39_mkM _ _ _ (⟨0, 0, y368⟩ : S39) (Kd.R_mono (Kd.R_tight rfl (Kd.R_mono (ok' := fun k_ => ((fun k_ => (w.heap.size ≤ k_))) k_ ∧ some k_ ≠ (.slice Ao48 x5_1.length co48 : Value).ownBlock) (Kd.R_apart' (HO370.out) (Kd.S_typed HO_5.out) (by decide)) (fun k_ hk => ⟨hk.1.1, hk.2⟩))) (fun _ h_ => h_))); (case aB => exact (by repeat (first | (with_reducible first | exact HB.out | apply below_alloc | apply pw_below_drewN | apply below_drew1) | exact HB.out))); (case aF => exact (fun k_ hk => (Nat.le_trans (below_size (by repeat (first | (with_reducible first | exact HB.out | apply below_alloc | apply pw_below_drewN | apply below_drew1) | exact HB.out))) hk))); (case aO => exact (by (with_reducible repeat (first | apply Kd.S_alloc | apply Kd.S_drewN | apply Kd.S_drew)); exact Kd.S_mono HO_5.out (fun k_ hk => ⟨hk.1, fun e_ => hk.2 e_⟩))); (case aS => exact (below_size (by repeat (first | (with_reducible first | exact HB.out | apply below_alloc | apply pw_below_drewN | apply below_drew1) | exact HB.out)))); (case aL => have := LMc45.out; omega); intro v372 w52 ho hb hg hat; rw [← Ny371.out] at ho; have n0_ := Aside0.mk (Kd.V_afterv (ok := (fun k_ => (P1_ k_ ∧ k_ < w.heap.size) ∧ some k_ ≠ (.slice Ao51 y368.length co51 : Value).ownBlock)) (by (with_reducible repeat (first | apply Kd.V_alloc | apply Kd.V_drewN | apply Kd.V_drew)); exact Kd.V_mono HO_1.out (fun _ hk => ⟨⟨hk.1.1, hk.2⟩, hk.1.2⟩)) hg hat); have n1_ := Aside0.mk (hb); have n2_ := Aside0.mk (ho); clear HO_1; clear HB; clear HO_5; clear HO370; have HO_1 := n0_; have HB := n1_; have HO373 := n2_; clear n0_ n1_ n2_; clear ho hb hg hat; have q53 : (1 : Int) ≤ ((x1_1.length : Int) : Int) := of_decide_eq_true (by assumption); obtain ⟨i053, hi053, _, hsz53, _⟩ := info_parts info9; have hroom53 : x1_1.length ≤ co47 := (Kd.V_reads' HO_1.out).2.1; have hC53 : Kd.F Kd.string _ _ (some ad367) x1_1.length x1_1 := (Kd.V_at (base := w.heap.size) HO_1.out).2.2; have hcut53 := cut_from (P := Try.prog) 30 9 .i64 Try.underlying30 hi053 1 hsz53 (some ad367) x1_1.length co47 1 (by omega) q53; have hr53 := Kd.F_cut (m := (1 : Int).toNat) (c := co47) hC53 (by omega) hroom53; obtain ⟨A53, hA53⟩ : ∃ A1, A1 = (if co47 = (1 : Int).toNat then (some ad367) else ((some ad367) : Option Addr).map (·.add ((1 : Int).toNat * 1))) := ⟨_, rfl⟩; obtain ⟨c53, hc53⟩ : ∃ c1, c1 = co47 - (1 : Int).toNat := ⟨_, rfl⟩; have hy53 : y374.length = x1_1.length - (1 : Int).toNat := (by rw [Ny374.out, List.length_drop] <;> omega); rw [show (x1_1).drop (1 : Int).toNat = y374 from Ny374.out.symm] at hr53; replace hr53 : Kd.F Kd.string _ _ A53 y374.length y374 := (by rw [hA53]; exact hr53); rw [← hy53, ← hA53, ← hc53] at hcut53; have HO378 := Aside0.mk (show Kd.V Kd.string 9 _ w.heap.size _ (.slice A53 y374.length c53) y374 from Kd.V_mk (by rw [hy53, hc53]; exact Nat.sub_le_sub_right hroom53 _) hr53); have HC378 := Aside0.mk (show y374.length ≤ c53 from by rw [hy53, hc53]; exact Nat.sub_le_sub_right hroom53 _); clear hr53 hC53 hroom53 hi053 hsz53 hc53; have KY53 := Aside0.mk hy53; have KA53 := Aside0.mk hA53; clear hy53 hA53; replace q53 := eq_true q53))
         go_roundg k1
         case measure => have := HK1.out; omega
         case rel => exact ⟨(y374), (y371), H', ⟨by have := HK1.out; omega⟩, ⟨by (with_reducible repeat (first | apply Kd.V_alloc | apply Kd.V_drewN | apply Kd.V_drew)); exact Kd.V_mono HO378.out (fun _ hk => ⟨hk.1.1, hk.2⟩)⟩, ⟨by (with_reducible repeat (first | apply Kd.S_alloc | apply Kd.S_drewN | apply Kd.S_drew)); exact HO373.out⟩, ⟨by repeat (first | (with_reducible first | exact HB.out | apply below_alloc | apply pw_below_drewN | apply below_drew1) | exact HB.out)⟩⟩
        ·rw [if_neg c46] at H; exact absurd H (by simp)
       ·rw [if_neg c45] at H; exact absurd H (by simp)
      ·rw [if_neg c44] at H; exact absurd H (by simp)
   ·rw [if_neg c5] at H; have c5b0 : decide (0 < (x1_1.length : Int)) = false := decide_eq_false c5; have c5b1 : decide (0 < x1_1.length) = false := decide_eq_false (by omega); clear c5; obtain rfl := Option.some.inj H; obtain ⟨Ao54, co54, eo54⟩ := Kd.V_slice HO_1.out; subst eo54; go_wp2; go_ret; exact ⟨_, by first | rfl | (simp <;> rfl) | (simp [*] <;> rfl), by (with_reducible repeat (first | apply Kd.S_alloc | apply Kd.S_drewN | apply Kd.S_drew)); exact HO_5.out, by repeat (first | (with_reducible first | exact HB.out | apply below_alloc | apply pw_below_drewN | apply below_drew1) | exact HB.out)⟩
end Go.Proofs.Ytfnhjaiioojbkaa.Q
end
section
namespace Go.Proofs.Ytfnhjaiioojbkaa.Q
open Go.RowKit Go.Proofs.YtfnhjaiioojbkaaW.PrintWords Go.Proofs.YtfnhjaiioojbkaaW.PrintLast Go.Proofs.YtfnhjaiioojbkaaW.PrintMore
attribute [local go_sem] max2_int min2_int max_two min_two max_three min_three max_four min_four   -- for this text's walks alone
set_option linter.unusedVariables false
set_option linter.unusedSimpArgs false
def impl_PackOf_1.f (k : Nat) (l0 : List ByteArray) : Option (Bool) := (impl_TextOk.f k l0).bind fun t859 => (some (!t859))
theorem impl_PackOf_1.mono : ∀ a0 k, LeO (impl_PackOf_1.f k a0) (impl_PackOf_1.f (k + 1) a0) := by
 intro a0 k
 unfold impl_PackOf_1.f
 repeat' first
  | (with_reducible exact impl_TextOk.mono _ _)
  | (with_reducible exact LeO.refl _)
  | (with_reducible exact LeO.none _)
  | (with_reducible refine LeO.ite ?_ ?_)
  | (with_reducible refine LeO.bind ?_ (fun _ => ?_))
  | exact impl_TextOk.mono _ _
  | exact LeO.none _
  | refine LeO.ite ?_ ?_
  | refine LeO.bind ?_ (fun _ => ?_)
set_option maxHeartbeats 8000000 in
set_option maxRecDepth 100000 in
theorem impl_PackOf_1.calls (k : Nat) (A0 : Option Addr) (c0 : Nat) (l0 : List ByteArray) (r : Bool) (w : World) (hr0 : Kd.C Kd.string w A0 l0.length l0) (hc0 : l0.length ≤ c0) (h : impl_PackOf_1.f k l0 = some r) :
 Calls Try.prog 93 #[.slice A0 l0.length c0] w fun e w' => e = .returned (.bool r) ∧ Drawn0 w w' := by
 have HR0 := Aside0.mk hr0; have HC0 := Aside0.mk hc0; clear hr0 hc0; have H : ((impl_TextOk.f k l0).bind fun t859 => (some (!t859))) = some r := h; clear h; replace H := Option.bind_eq_some_iff.mp H; obtain ⟨t859, A20, H⟩ := H; replace H : (some (!t859)) = some r := H; have A2 := Aside0.mk A20; clear A20; obtain rfl := Option.some.inj H; go_enter Try.func93, Try.ntmps93; go_wp2_with (first | ((with_reducible refine gate_callee (f := 24) rfl ?_); refine goesL_ (some 4) rfl rfl Try.func24 (by kernel_rfl) rfl #[.slice A0 l0.length c0] rfl (by (try simp only [List.map_toArray, List.map_cons, List.map_nil]); first | done | rfl | (simp only [List.length_drop, List.length_take]; rfl)) ?_; (with_reducible refine (impl_TextOk.calls k _ _ l0 t859 _ ?side1 ?side2 A2.out).mono ?_); (case side1 => repeat (first | exact HR0.out | (with_reducible refine Kd.C_alloc ?_ _) | (with_reducible refine Kd.C_drewN ?_ _) | (with_reducible refine Kd.C_drew ?_))); (case side2 => exact HC0.out); rintro e w' ⟨rfl, ⟨nd, rfl⟩⟩; refine ⟨_, rfl, ?_⟩)); go_ret; exact ⟨by first | rfl | (simp; done) | (simp [*]; done), by repeat (first | exact Drawn0.refl _ | apply Drawn0.step)⟩
end Go.Proofs.Ytfnhjaiioojbkaa.Q
end
section
namespace Go.Proofs.Ytfnhjaiioojbkaa.Q
open Go.RowKit Go.Proofs.YtfnhjaiioojbkaaW.PrintWords Go.Proofs.YtfnhjaiioojbkaaW.PrintLast Go.Proofs.YtfnhjaiioojbkaaW.PrintMore
attribute [local go_sem] max2_int min2_int max_two min_two max_three min_three max_four min_four   -- for this text's walks alone
set_option linter.unusedVariables false
set_option linter.unusedSimpArgs false
set_option maxHeartbeats 2000000 in
theorem idxFunc_strs {d : Kd (List ByteArray)} (hd : ∀ W A n xs i, Kd.C d W A n xs → 0 ≤ i → i < (n : Int) → ∃ ad A0 c0, A = some ad ∧ W.cell? (ad.add i.toNat) = some (.slice A0 (rd_L2 xs i).length c0) ∧ (rd_L2 xs i).length ≤ c0 ∧ Kd.string.C W A0 (rd_L2 xs i).length (rd_L2 xs i)) (g : Nat) (lb : Array Value) (eg : ∀ args w, (callFunc g args).run Try.prog w = .ok (.enter g args) w) (Rel : World → World → Prop) (f : List ByteArray → Option Bool) (A : Option Addr) (c : Nat) (l : List (List ByteArray)) (r : Int) (w : World) (hl : l.length ≤ 9223372036854775807)
 (h0 : Rel w w) (hr : ∀ W, Rel w W → Kd.C d W A l.length l)
 (hp : ∀ W x A0 c0 b, Rel w W → x.length ≤ c0 → Kd.C Kd.string W A0 x.length x → f x = some b → Calls Try.prog g (#[.slice A0 x.length c0] ++ lb) W fun e w' => e = .returned (.bool b) ∧ Rel w w')
 (h : idxF f 0 l = some r) :
 Calls Try.prog 110 #[.slice A l.length c, .func (.func g) #[] lb] w fun e w' => e = .returned (.int .i64 r) ∧ Rel w w' := by
 have HP := Aside0.mk hp; have HR := Aside0.mk hr; have H0 := Aside0.mk h0; have HH := Aside0.mk h; have HD := Aside0.mk hd; clear hp hr h0 h hd; go_enter Try.func110, Try.ntmps110; go_wp2; go_loopg [5, 8] l.length (fun gg _ s8 wr => ∃ kk : Nat, kk ≤ l.length ∧ l.length - kk ≤ gg ∧ s8 = .int .i64 kk ∧ Aside0 (Rel w wr) ∧ Aside0 (idxF f kk (l.drop kk) = some r))
 case atStart => exact ⟨0, Nat.zero_le _, by omega, rfl, H0, ⟨by simpa using HH.out⟩⟩
 case round =>
  obtain ⟨kk, hkk, hg, rfl, BW, HA⟩ := hrel; by_cases hlt : kk < l.length
  ·(have hltz : (kk : Int) < (l.length : Int) := by omega); obtain ⟨ad, A0, c0, ea, hcell, hc0, hC⟩ := HD.out _ _ _ _ (kk : Int) (HR.out wr BW.out) (by omega) hltz; cases ea; have HA2 := HA.out; rw [idxF_drop f l kk hlt] at HA2; obtain ⟨b, hb, HA3⟩ := Option.bind_eq_some_iff.mp HA2; (have hx : rd_L2 l (kk : Int) = l[kk]'hlt := by simp [rd_L2, List.getD_eq_getElem?_getD, hlt]); rw [← hx] at hb; have hcall := HP.out wr _ A0 c0 b BW.out hc0 hC hb; have HX := Aside0.mk HA3; simp only [Int.toNat_natCast] at hcell; clear HA2 HA3 hx hb hc0 hC
   cases b with
   | true =>
    go_wp2_with (go_at_fn g; refine hcall.mono ?_; rintro e w' ⟨rfl, hb'⟩); go_ret; obtain rfl := Option.some.inj HX.out
    exact ⟨rfl, hb'⟩
   | false =>
    go_wp2_with (go_at_fn g; refine hcall.mono ?_; rintro e w' ⟨rfl, hb'⟩); go_roundg (l.length - (kk + 1))
    case measure => omega
    case rel => exact ⟨kk + 1, by omega, by omega, by go_num, ⟨hb'⟩, HX⟩
  ·(have hltz : ¬ (kk : Int) < (l.length : Int) := by omega); (have : kk = l.length := by omega); subst this; go_wp2; go_ret; have := HA.out
   simp [idxF] at this
   subst this; exact ⟨rfl, BW.out⟩
end Go.Proofs.Ytfnhjaiioojbkaa.Q
end
section
namespace Go.Proofs.Ytfnhjaiioojbkaa.Q
open Go.RowKit Go.Proofs.YtfnhjaiioojbkaaW.PrintWords Go.Proofs.YtfnhjaiioojbkaaW.PrintLast Go.Proofs.YtfnhjaiioojbkaaW.PrintMore
attribute [local go_sem] max2_int min2_int max_two min_two max_three min_three max_four min_four   -- for this text's walks alone
set_option linter.unusedVariables false
set_option linter.unusedSimpArgs false
set_option maxHeartbeats 2000000 in
theorem containsFunc_strs {d : Kd (List ByteArray)} (hd : ∀ W A n xs i, Kd.C d W A n xs → 0 ≤ i → i < (n : Int) → ∃ ad A0 c0, A = some ad ∧ W.cell? (ad.add i.toNat) = some (.slice A0 (rd_L2 xs i).length c0) ∧ (rd_L2 xs i).length ≤ c0 ∧ Kd.string.C W A0 (rd_L2 xs i).length (rd_L2 xs i)) (g : Nat) (lb : Array Value) (eg : ∀ args w, (callFunc g args).run Try.prog w = .ok (.enter g args) w) (Rel : World → World → Prop) (f : List ByteArray → Option Bool) (A : Option Addr) (c : Nat) (l : List (List ByteArray)) (r : Bool) (w : World) (hl : l.length ≤ 9223372036854775807)
 (h0 : Rel w w) (hr : ∀ W, Rel w W → Kd.C d W A l.length l)
 (hp : ∀ W x A0 c0 b, Rel w W → x.length ≤ c0 → Kd.C Kd.string W A0 x.length x → f x = some b → Calls Try.prog g (#[.slice A0 x.length c0] ++ lb) W fun e w' => e = .returned (.bool b) ∧ Rel w w')
 (h : anyF f l = some r) :
 Calls Try.prog 92 #[.slice A l.length c, .func (.func g) #[] lb] w fun e w' => e = .returned (.bool r) ∧ Rel w w' := by
 obtain ⟨q, hq, hb⟩ := idxF_of_anyF f l 0 r h; have HC := Aside0.mk (idxFunc_strs hd g lb eg Rel f A c l q w hl h0 hr hp hq); have HQ := Aside0.mk hb; clear hr hp h hq h0 eg hb; go_enter Try.func92, Try.ntmps92; go_wp2_with (go_at_call 110; refine HC.out.mono ?_; rintro e w' ⟨rfl, hb'⟩); go_ret; exact ⟨by rw [← HQ.out]; rfl, hb'⟩
end Go.Proofs.Ytfnhjaiioojbkaa.Q
end
section
namespace Go.Proofs.Ytfnhjaiioojbkaa.Q
open Go.RowKit Go.Proofs.YtfnhjaiioojbkaaW.PrintWords Go.Proofs.YtfnhjaiioojbkaaW.PrintLast Go.Proofs.YtfnhjaiioojbkaaW.PrintMore
attribute [local go_sem] max2_int min2_int max_two min_two max_three min_three max_four min_four   -- for this text's walks alone
set_option linter.unusedVariables false
set_option linter.unusedSimpArgs false
def impl_PackOf_any.f (k : Nat) (l0 : List (List ByteArray)) : Option Bool := anyF (impl_PackOf_1.f k) l0
theorem impl_PackOf_any.mono : ∀ a0 k, LeO (impl_PackOf_any.f k a0) (impl_PackOf_any.f (k + 1) a0) := fun a0 k => anyF_mono (fun x => impl_PackOf_1.mono x k) a0
theorem impl_PackOf_any.calls (k : Nat) (A0 : Option Addr) (c0 : Nat) (l0 : List (List ByteArray)) (r : Bool) (w : World) (hr0 : Kd.C (Kd.slice 9 Kd.string) w A0 l0.length l0) (hc0 : l0.length ≤ c0) (h : impl_PackOf_any.f k l0 = some r) :
 Calls Try.prog 92 #[.slice A0 l0.length c0, .func (.func 93) #[] #[]] w fun e w' => e = .returned (.bool r) ∧ Drawn0 w w' :=
 containsFunc_strs (d := Kd.slice 9 Kd.string) (fun W A n xs i hC h0 h1 => at_L2 hC i h0 h1) 93 #[] (enters_of Try.func93 (by kernel_rfl) rfl) Drawn0 (impl_PackOf_1.f k) A0 c0 l0 r w hr0.2.1 (Drawn0.refl _)
  (fun W hW => Kd.C_below hr0 hW.below)
  (fun W x A0 c0 b hW hc hC hx => (impl_PackOf_1.calls k A0 c0 x b W hC hc hx).mono fun e w' ⟨he, hd⟩ => ⟨he, by obtain ⟨n, rfl⟩ := hd; exact hW.step n⟩) h
end Go.Proofs.Ytfnhjaiioojbkaa.Q
end
section
namespace Go.Proofs.Ytfnhjaiioojbkaa.Q
open Go.RowKit Go.Proofs.YtfnhjaiioojbkaaW.PrintWords Go.Proofs.YtfnhjaiioojbkaaW.PrintLast Go.Proofs.YtfnhjaiioojbkaaW.PrintMore
attribute [local go_sem] max2_int min2_int max_two min_two max_three min_three max_four min_four   -- for this text's walks alone
set_option linter.unusedVariables false
set_option linter.unusedSimpArgs false
mutual
def impl_PackOf.j0 : Nat → List (List ByteArray) → List (S53) → List Int → Bool → Option ((List (S53)))
 | 0, _, _, _, _ => none
 | k + 1, x0, x3, x4, x19 => if x19 = true then (some x3) else (impl_PackOf.l0 k x0 x3 x4 x0 (x0.length : Int) 0)
def impl_PackOf.l0 : Nat → List (List ByteArray) → List (S53) → List Int → List (List ByteArray) → Int → Int → Option ((List (S53)))
 | 0, _, _, _, _, _, _ => none
 | k + 1, x0, x3, x4, x21, x22, x23 => if x23 < x22 then (if 0 ≤ x23 then (if x23 < (x21.length : Int) then ((impl_deltaOf.f k ([] : List ByteArray) (rd_L2 x21 x23)).bind fun t868 => (impl_PackOf.l1 k x0 x3 x4 (rd_L2 x21 x23) 1 x21 x22 x23 x23 0 (-1) t868)) else (none)) else (none)) else (some x3)
def impl_PackOf.l1 : Nat → List (List ByteArray) → List (S53) → List Int → List ByteArray → Int → List (List ByteArray) → Int → Int → Int → Int → Int → List (S39) → Option ((List (S53)))
 | 0, _, _, _, _, _, _, _, _, _, _, _, _ => none
 | k + 1, x0, x3, x4, x6, x8, x21, x22, x23, x31, x32, x872000, x872001 => if x32 < x31 then (if 0 ≤ x32 then (if x32 < (x4.length : Int) then (if (rd x4 x32) ≥ 3 then (impl_PackOf.l1 k x0 x3 x4 x6 x8 x21 x22 x23 x31 (wrap64 (x32 + 1)) x872000 x872001) else (if x32 < (x0.length : Int) then ((impl_deltaOf.f k (rd_L2 x0 x32) x6).bind fun t880 => ((impl_deltaSize.f k t880).bind fun t883 => ((impl_deltaSize.f k x872001).bind fun t884 => (if t883 < t884 then (impl_PackOf.l1 k x0 x3 x4 x6 (wrap64 ((rd x4 x32) + 1)) x21 x22 x23 x31 (wrap64 (x32 + 1)) x32 t880) else (impl_PackOf.l1 k x0 x3 x4 x6 x8 x21 x22 x23 x31 (wrap64 (x32 + 1)) x872000 x872001))))) else (none))) else (none)) else (none)) else (if x3.length < 4398046511104 then (if x4.length < 17592186044416 then (impl_PackOf.l0 k x0 (x3 ++ [(⟨x872000, x872001⟩ : S53)]) (x4 ++ [x8]) x21 x22 (wrap64 (x23 + 1))) else (none)) else (none))
end
def impl_PackOf.f (k : Nat) (l0 : List (List ByteArray)) : Option ((List (S53))) := (some (([] : List (S53)) : List (S53))).bind fun y860 => ((some (([] : List Int) : List Int)).bind fun y863 => (if (l0.length : Int) > 12 then (impl_PackOf.j0 k l0 y860 y863 true) else ((impl_PackOf_any.f k l0).bind fun t866 => (impl_PackOf.j0 k l0 y860 y863 t866))))
theorem impl_PackOf.mono_l : ∀ k, (∀ y0 y1 y2 y3, LeO (impl_PackOf.j0 k y0 y1 y2 y3) (impl_PackOf.j0 (k + 1) y0 y1 y2 y3)) ∧ (∀ y0 y1 y2 y3 y4 y5, LeO (impl_PackOf.l0 k y0 y1 y2 y3 y4 y5) (impl_PackOf.l0 (k + 1) y0 y1 y2 y3 y4 y5)) ∧ (∀ y0 y1 y2 y3 y4 y5 y6 y7 y8 y9 y10 y11, LeO (impl_PackOf.l1 k y0 y1 y2 y3 y4 y5 y6 y7 y8 y9 y10 y11) (impl_PackOf.l1 (k + 1) y0 y1 y2 y3 y4 y5 y6 y7 y8 y9 y10 y11))
 | 0 => ⟨fun _ _ _ _ r h => by simp [impl_PackOf.j0] at h, fun _ _ _ _ _ _ r h => by simp [impl_PackOf.l0] at h, fun _ _ _ _ _ _ _ _ _ _ _ _ r h => by simp [impl_PackOf.l1] at h⟩
 | k + 1 => by
  obtain ⟨ih0, ih1, ih2⟩ := impl_PackOf.mono_l k; refine ⟨?_, ?_, ?_⟩
  ·intro y0 y1 y2 y3
   unfold impl_PackOf.j0
   repeat' first
   | (with_reducible exact ih0 _ _ _ _)
   | (with_reducible exact ih1 _ _ _ _ _ _)
   | (with_reducible exact ih2 _ _ _ _ _ _ _ _ _ _ _ _)
   | (with_reducible exact impl_PackOf_any.mono _ _)
   | (with_reducible exact impl_deltaOf.mono _ _ _)
   | (with_reducible exact impl_deltaSize.mono _ _)
   | (with_reducible exact LeO.refl _)
   | (with_reducible exact LeO.none _)
   | (with_reducible refine LeO.ite ?_ ?_)
   | (with_reducible refine LeO.bind ?_ (fun _ => ?_))
   | exact ih0 _ _ _ _
   | exact ih1 _ _ _ _ _ _
   | exact ih2 _ _ _ _ _ _ _ _ _ _ _ _
   | exact impl_PackOf_any.mono _ _
   | exact impl_deltaOf.mono _ _ _
   | exact impl_deltaSize.mono _ _
   | exact LeO.none _
   | refine LeO.ite ?_ ?_
   | refine LeO.bind ?_ (fun _ => ?_)
  ·intro y0 y1 y2 y3 y4 y5
   unfold impl_PackOf.l0
   repeat' first
   | (with_reducible exact ih0 _ _ _ _)
   | (with_reducible exact ih1 _ _ _ _ _ _)
   | (with_reducible exact ih2 _ _ _ _ _ _ _ _ _ _ _ _)
   | (with_reducible exact impl_PackOf_any.mono _ _)
   | (with_reducible exact impl_deltaOf.mono _ _ _)
   | (with_reducible exact impl_deltaSize.mono _ _)
   | (with_reducible exact LeO.refl _)
   | (with_reducible exact LeO.none _)
   | (with_reducible refine LeO.ite ?_ ?_)
   | (with_reducible refine LeO.bind ?_ (fun _ => ?_))
   | exact ih0 _ _ _ _
   | exact ih1 _ _ _ _ _ _
   | exact ih2 _ _ _ _ _ _ _ _ _ _ _ _
   | exact impl_PackOf_any.mono _ _
   | exact impl_deltaOf.mono _ _ _
   | exact impl_deltaSize.mono _ _
   | exact LeO.none _
   | refine LeO.ite ?_ ?_
   | refine LeO.bind ?_ (fun _ => ?_)
  ·intro y0 y1 y2 y3 y4 y5 y6 y7 y8 y9 y10 y11
   unfold impl_PackOf.l1
   repeat' first
   | (with_reducible exact ih0 _ _ _ _)
   | (with_reducible exact ih1 _ _ _ _ _ _)
   | (with_reducible exact ih2 _ _ _ _ _ _ _ _ _ _ _ _)
   | (with_reducible exact impl_PackOf_any.mono _ _)
   | (with_reducible exact impl_deltaOf.mono _ _ _)
   | (with_reducible exact impl_deltaSize.mono _ _)
   | (with_reducible exact LeO.refl _)
   | (with_reducible exact LeO.none _)
   | (with_reducible refine LeO.ite ?_ ?_)
   | (with_reducible refine LeO.bind ?_ (fun _ => ?_))
   | exact ih0 _ _ _ _
   | exact ih1 _ _ _ _ _ _
   | exact ih2 _ _ _ _ _ _ _ _ _ _ _ _
   | exact impl_PackOf_any.mono _ _
   | exact impl_deltaOf.mono _ _ _
   | exact impl_deltaSize.mono _ _
   | exact LeO.none _
   | refine LeO.ite ?_ ?_
   | refine LeO.bind ?_ (fun _ => ?_)
theorem impl_PackOf.mono : ∀ a0 k, LeO (impl_PackOf.f k a0) (impl_PackOf.f (k + 1) a0) := by
 intro a0 k; obtain ⟨ih0, ih1, ih2⟩ := impl_PackOf.mono_l k
 unfold impl_PackOf.f
 repeat' first
  | (with_reducible exact ih0 _ _ _ _)
  | (with_reducible exact ih1 _ _ _ _ _ _)
  | (with_reducible exact ih2 _ _ _ _ _ _ _ _ _ _ _ _)
  | (with_reducible exact impl_PackOf_any.mono _ _)
  | (with_reducible exact impl_deltaOf.mono _ _ _)
  | (with_reducible exact impl_deltaSize.mono _ _)
  | (with_reducible exact LeO.refl _)
  | (with_reducible exact LeO.none _)
  | (with_reducible refine LeO.ite ?_ ?_)
  | (with_reducible refine LeO.bind ?_ (fun _ => ?_))
  | exact ih0 _ _ _ _
  | exact ih1 _ _ _ _ _ _
  | exact ih2 _ _ _ _ _ _ _ _ _ _ _ _
  | exact impl_PackOf_any.mono _ _
  | exact impl_deltaOf.mono _ _ _
  | exact impl_deltaSize.mono _ _
  | exact LeO.none _
  | refine LeO.ite ?_ ?_
  | refine LeO.bind ?_ (fun _ => ?_)
def impl_PackOf.T14 : Bool × List (List Nat × List Nat) := (true, [([], []), ([], []), ([0, 1], [0, 1]), ([], []), ([], []), ([3, 4], [3, 4]), ([5], [5]), ([6], [6]), ([2, 0, 1, 2], [2]), ([7, 8, 0, 1, 2, 3, 4, 5, 6, 7, 8], [7])])
def impl_PackOf.B14 : List Nat := [0, 0, 3, 0, 0, 24, 56, 120, 7, 511]
theorem impl_PackOf.tab14 : rtab .any (opsOf Try.f47 14) = impl_PackOf.T14 := by kernel_rfl
theorem impl_PackOf.bits14 : waitsOk impl_PackOf.T14.2 impl_PackOf.B14 = true := by kernel_rfl
set_option maxHeartbeats 8000000 in
set_option maxRecDepth 100000 in
theorem impl_PackOf.calls (k : Nat) (A0 : Option Addr) (c0 : Nat) (l0 : List (List ByteArray)) (r : List (S53)) (w : World) (hr0 : Kd.C (Kd.slice 9 Kd.string) w A0 l0.length l0) (hc0 : l0.length ≤ c0) (h : impl_PackOf.f k l0 = some r) :
 Calls Try.prog 47 #[.slice A0 l0.length c0] w fun e w' => ∃ v0_ : Value, e = .returned (v0_) ∧ Kd.R k53 53 w' w.heap.size (fun _ => True) v0_ r ∧ Below w.heap.size w w' := by
 have hu53 := Try.underlying53; have HR0 := Aside0.mk hr0; have HC0 := Aside0.mk hc0; clear hr0 hc0; have HB := Aside0.mk (Below.refl w.heap.size w); have H : ((some (([] : List (S53)) : List (S53))).bind fun y860 => ((some (([] : List Int) : List Int)).bind fun y863 => (if (l0.length : Int) > 12 then (impl_PackOf.j0 k l0 y860 y863 true) else ((impl_PackOf_any.f k l0).bind fun t866 => (impl_PackOf.j0 k l0 y860 y863 t866))))) = some r := h; clear h; obtain ⟨y860, hy860⟩ : ∃ y_ : List (S53), y_ = (([] : List (S53))) := ⟨_, rfl⟩; (replace H : ((some (([] : List Int) : List Int)).bind fun y863 => (if (l0.length : Int) > 12 then (impl_PackOf.j0 k l0 y860 y863 true) else ((impl_PackOf_any.f k l0).bind fun t866 => (impl_PackOf.j0 k l0 y860 y863 t866)))) = some r := by first | (rw [hy860]; with_reducible exact H) | (have H2_ := (Option.bind_some _ _).symm.trans H; rw [hy860]; with_reducible exact H2_) | (have H2_ := (Option.bind_some _ _).symm.trans H; with_reducible exact H2_) | with_reducible exact H | (rw [hy860]; exact H) | exact H); have Ny860 := Aside0.mk hy860; clear hy860; obtain ⟨y863, hy863⟩ : ∃ y_ : List Int, y_ = (([] : List Int)) := ⟨_, rfl⟩; (replace H : (if (l0.length : Int) > 12 then (impl_PackOf.j0 k l0 y860 y863 true) else ((impl_PackOf_any.f k l0).bind fun t866 => (impl_PackOf.j0 k l0 y860 y863 t866))) = some r := by first | (rw [hy863]; with_reducible exact H) | (have H2_ := (Option.bind_some _ _).symm.trans H; rw [hy863]; with_reducible exact H2_) | (have H2_ := (Option.bind_some _ _).symm.trans H; with_reducible exact H2_) | with_reducible exact H | (rw [hy863]; exact H) | exact H); have Ny863 := Aside0.mk hy863; clear hy863; have HC2 := Aside0.mk H; clear H; go_enter Try.func47, Try.ntmps47; (go_upto_region 2 with (first | ((with_reducible refine gate_dst (N := 11) rfl ?_); refine Kd.R_lit k53 _ 53 ?hg (N := 11) ?hd (xs := ([] : List (S53))) (inner := []) (ok := fun _ => True) (okp := fun _ => True) ?hr ?hp (fun _ hk => hk) trivial (Below.refl _ _) (Nat.le_refl _) (by simp) ?_; (case hd => rfl); (case hg => rfl); (case hr => first | (go_simp; done) | (go_simp; rfl)); (case hp => exact (Reps.none _ _)); intro v861 w3 ho4 hb hg_ hnew_; clear hg_ hnew_; (first | rw [← Ny860.out] at ho4 | (simp only [Int.reduceToNat] at ho4; rw [← Ny860.out] at ho4)); have n0_ := Aside0.mk (Kd.R_lower ho4 (below_size (by repeat (first | (with_reducible first | exact HB.out | apply below_alloc | apply pw_below_drewN | apply below_drew1) | exact HB.out)))); have n1_ := Aside0.mk (below_step (by repeat (first | (with_reducible first | exact HB.out | apply below_alloc | apply pw_below_drewN | apply below_drew1) | exact HB.out)) hb); clear HB; have HO862 := n0_; have HB := n1_; clear n0_ n1_; clear hb ho4) | ((with_reducible refine gate_dst (N := 12) rfl ?_); refine Kd.R_lit (Kd.int .i64) _ 3 ?hg (N := 12) ?hd (xs := ([] : List Int)) (inner := []) (ok := fun _ => True) (okp := fun _ => True) ?hr ?hp (fun _ hk => hk) trivial (Below.refl _ _) (Nat.le_refl _) (by simp) ?_; (case hd => rfl); (case hg => rfl); (case hr => first | (go_simp; done) | (go_simp; rfl)); (case hp => exact (Reps.none _ _)); intro v864 w5 ho6 hb hg_ hnew_; clear hg_ hnew_; (first | rw [← Ny863.out] at ho6 | (simp only [Int.reduceToNat] at ho6; rw [← Ny863.out] at ho6)); have n0_ := Aside0.mk (Kd.R_below (by (with_reducible repeat (first | apply Kd.R_alloc | apply Kd.R_drewN | apply Kd.R_drew)); exact HO862.out) hb); have n1_ := Aside0.mk (Kd.R_lower ho6 (below_size (by repeat (first | (with_reducible first | exact HB.out | apply below_alloc | apply pw_below_drewN | apply below_drew1) | exact HB.out)))); have n2_ := Aside0.mk (below_step (by repeat (first | (with_reducible first | exact HB.out | apply below_alloc | apply pw_below_drewN | apply below_drew1) | exact HB.out)) hb); clear HO862; clear HB; have HO862 := n0_; have HO865 := n1_; have HB := n2_; clear n0_ n1_ n2_; clear hb ho6)))
 (try simp only [Act.put, List.setIfInBounds_toArray, List.set_cons_zero, List.set_cons_succ])
 go_cut [19] (fun v19 wc => ∃ (kq : Nat) (x19_1 : Bool), v19 = .bool x19_1 ∧ Aside0 (impl_PackOf.j0 kq l0 y860 y863 x19_1 = some r) ∧ Aside0 (kq ≤ k) ∧ Aside0 (Kd.R k53 53 wc w.heap.size (fun _ => True) v861 y860) ∧ Aside0 (Kd.R (Kd.int .i64) 3 wc w.heap.size (fun _ => True) v864 y863) ∧ Aside0 (Below w.heap.size w wc))
 case first =>
  have H := HC2.out; clear HC2; by_cases c7 : (l0.length : Int) > 12
  ·rw [if_pos c7] at H; have c7b0 : decide (12 < (l0.length : Int)) = true := decide_eq_true c7; have c7b1 : decide (12 < l0.length) = true := decide_eq_true (by omega); clear c7
   (first | rw [c7b0] | (simp only [i64_w, i32_w]; rw [c7b0]) | skip)
   have H' := Aside0.mk H; clear H; go_wp2; go_meet
   case rel => exact ⟨_, (true), (by first | rfl | (simp; done) | (simp [*]; done)), H', ⟨by first | omega | exact Nat.le_refl _⟩, ⟨by (with_reducible repeat (first | apply Kd.R_alloc | apply Kd.R_drewN | apply Kd.R_drew)); exact HO862.out⟩, ⟨by (with_reducible repeat (first | apply Kd.R_alloc | apply Kd.R_drewN | apply Kd.R_drew)); exact HO865.out⟩, ⟨by repeat (first | (with_reducible first | exact HB.out | apply below_alloc | apply pw_below_drewN | apply below_drew1) | exact HB.out)⟩⟩
  ·rw [if_neg c7] at H; have c7b0 : decide (12 < (l0.length : Int)) = false := decide_eq_false c7; have c7b1 : decide (12 < l0.length) = false := decide_eq_false (by omega); clear c7
   (first | rw [c7b0] | (simp only [i64_w, i32_w]; rw [c7b0]) | skip)
   replace H := Option.bind_eq_some_iff.mp H; obtain ⟨t866, A80, H⟩ := H; replace H : (impl_PackOf.j0 k l0 y860 y863 t866) = some r := H; have A8 := Aside0.mk A80; clear A80; have H' := Aside0.mk H; clear H; go_wp2_with (first | (go_at_call 92; (with_reducible refine (impl_PackOf_any.calls k _ _ l0 t866 _ ?side1 ?side2 A8.out).mono ?_); (case side1 => repeat (first | exact (Kd.C_below HR0.out HB.out) | (with_reducible refine Kd.C_alloc ?_ _) | (with_reducible refine Kd.C_drewN ?_ _) | (with_reducible refine Kd.C_drew ?_))); (case side2 => exact HC0.out); rintro e w' ⟨rfl, ⟨nd, rfl⟩⟩)); go_meet
   case rel => exact ⟨_, (t866), (by first | rfl | (simp; done) | (simp [*]; done)), H', ⟨by first | omega | exact Nat.le_refl _⟩, ⟨by (with_reducible repeat (first | apply Kd.R_alloc | apply Kd.R_drewN | apply Kd.R_drew)); exact HO862.out⟩, ⟨by (with_reducible repeat (first | apply Kd.R_alloc | apply Kd.R_drewN | apply Kd.R_drew)); exact HO865.out⟩, ⟨by repeat (first | (with_reducible first | exact HB.out | apply below_alloc | apply pw_below_drewN | apply below_drew1) | exact HB.out)⟩⟩
 case rest =>
  clear HC2; (try clear p2); (try clear c4); (try clear c7); (try clear c7b0); (try clear c7b1); obtain ⟨kq, x19_1, rfl, HA, HJ1, HO_3, HO_4, HB⟩ := hcut
  cases kq with
  | zero => exact absurd HA.out (by simp [impl_PackOf.j0])
  | succ kj1 =>
   have H := HA.out; clear HA; simp only [impl_PackOf.j0] at H; by_cases c9 : x19_1 = true
   ·subst c9; (have H1 : (some y860) = some r := by rw [if_pos rfl] at H; exact H); clear H; have H := H1; clear H1; obtain rfl := Option.some.inj H; go_wp2; go_ret; exact ⟨_, by first | rfl | (simp <;> rfl) | (simp [*] <;> rfl), by (with_reducible repeat (first | apply Kd.R_alloc | apply Kd.R_drewN | apply Kd.R_drew)); exact HO_3.out, by repeat (first | (with_reducible first | exact HB.out | apply below_alloc | apply pw_below_drewN | apply below_drew1) | exact HB.out)⟩
   ·replace c9 := Bool.eq_false_iff.mpr c9; subst c9; (have H1 : (impl_PackOf.l0 kj1 l0 y860 y863 l0 (l0.length : Int) 0) = some r := by rw [if_neg (show ¬ (false = true) by decide)] at H; exact H); clear H; have H := H1; clear H1; have H' := Aside0.mk H; clear H; go_wp2; go_loopg [3, 4, 23] kj1 (fun kq v3 v4 v23 w' => ∃ (x3_2 : List (S53)) (x4_2 : List Int) (x23_2 : Int), v23 = .int .i64 x23_2 ∧ Aside0 (impl_PackOf.l0 kq l0 x3_2 x4_2 l0 (l0.length : Int) x23_2 = some r) ∧ Aside0 (kq ≤ kj1) ∧ Aside0 (Kd.R k53 53 w' w.heap.size (fun _ => True) v3 x3_2) ∧ Aside0 (Kd.R (Kd.int .i64) 3 w' w.heap.size (fun _ => True) v4 x4_2) ∧ Aside0 (Below w.heap.size w w'))
    case atStart => exact ⟨(y860), (y863), (0), (by first | rfl | (simp; done) | (simp [*]; done)), H', ⟨Nat.le_refl _⟩, ⟨by (with_reducible repeat (first | apply Kd.R_alloc | apply Kd.R_drewN | apply Kd.R_drew)); exact HO_3.out⟩, ⟨by (with_reducible repeat (first | apply Kd.R_alloc | apply Kd.R_drewN | apply Kd.R_drew)); exact HO_4.out⟩, ⟨by repeat (first | (with_reducible first | exact HB.out | apply below_alloc | apply pw_below_drewN | apply below_drew1) | exact HB.out)⟩⟩
    case round =>
     clear H'; (try clear p2); (try clear c4); (try clear c7); (try clear c7b0); (try clear c7b1); (try clear c9); (try clear p2); obtain ⟨x3_2, x4_2, x23_2, rfl, HA, HK2, HO_3, HO_4, HB⟩ := hrel
     cases gk with
     | zero => exact absurd HA.out (by simp [impl_PackOf.l0])
     | succ k2 =>
      have H := HA.out; clear HA; simp only [impl_PackOf.l0] at H; by_cases c10 : x23_2 < (l0.length : Int)
      ·rw [if_pos c10] at H; have c10b0 : decide (x23_2 < (l0.length : Int)) = true := decide_eq_true c10; clear c10; by_cases c11 : 0 ≤ x23_2
       ·rw [if_pos c11] at H; have c11b0 : decide (0 ≤ x23_2) = true := decide_eq_true c11; clear c11; by_cases c12 : x23_2 < (l0.length : Int)
        ·rw [if_pos c12] at H; have c12b0 : decide (x23_2 < (l0.length : Int)) = true := decide_eq_true c12; clear c12; replace H := Option.bind_eq_some_iff.mp H; obtain ⟨t868, A130, H⟩ := H; replace H : (impl_PackOf.l1 k2 l0 x3_2 x4_2 (rd_L2 l0 x23_2) 1 l0 (l0.length : Int) x23_2 x23_2 0 (-1) t868) = some r := H; have A13 := Aside0.mk A130; clear A130; have H' := Aside0.mk H; clear H; have p867 : 0 ≤ (x23_2 : Int) := of_decide_eq_true (by assumption); have q867 : x23_2 < (l0.length : Int) := of_decide_eq_true (by assumption); obtain ⟨ad867, A867_0, c867_0, e867, hx867_0, hl867_0, hi867_0⟩ := at_L2 HR0.out x23_2 p867 q867; cases e867; replace hx867_0 := (HB.out.cell (World.block_lt_of_cell? w _ hx867_0)).trans hx867_0; have HR867_0 := Aside0.mk hi867_0; have HC867_0 := Aside0.mk hl867_0; clear hi867_0 hl867_0; replace p867 := eq_true p867; replace q867 := eq_true q867; go_wp2_with (first | ((with_reducible refine gate_callee (f := 70) rfl ?_); refine goesL_ (some 29) rfl rfl Try.func70 (by kernel_rfl) rfl #[.slice none 0 0, .slice A867_0 (rd_L2 l0 x23_2).length c867_0] rfl (by (try simp only [List.map_toArray, List.map_cons, List.map_nil]); first | done | rfl | (simp only [List.length_drop, List.length_take]; rfl)) ?_; (refine (impl_deltaOf.calls k2 _ _ ([] : List ByteArray) (fun k_ => k_ < w.heap.size) _ _ (rd_L2 l0 x23_2) t868 _ ?side1 ?side2 ?side3 A13.out).mono ?_); (case side1 => exact Kd.C_nil _ _); (case side2 => exact Nat.le_refl _); (case side3 => exact Kd.V_mk HC867_0.out (Kd.F_below (Kd.C_F Kd.heap_string HR867_0.out) (by repeat (first | (with_reducible first | exact HB.out | apply below_alloc | apply pw_below_drewN | apply below_drew1) | exact HB.out)))); rintro e w14 ⟨v869, rfl, ho0, hb⟩; refine ⟨_, rfl, ?_⟩; have n0_ := Aside0.mk (Kd.R_elder' (by (with_reducible repeat (first | apply Kd.R_alloc | apply Kd.R_drewN | apply Kd.R_drew)); exact HO_3.out) (Kd.S_base ho0) hb); have n1_ := Aside0.mk (Kd.R_below (by (with_reducible repeat (first | apply Kd.R_alloc | apply Kd.R_drewN | apply Kd.R_drew)); exact HO_4.out) hb); have n2_ := Aside0.mk (Kd.S_lower (Kd.S_mono (ok' := fun k_ => True) ho0 (fun _ hk_ => trivial)) (below_size (by repeat (first | (with_reducible first | exact HB.out | apply below_alloc | apply pw_below_drewN | apply below_drew1) | exact HB.out)))); have n3_ := Aside0.mk (below_step (by repeat (first | (with_reducible first | exact HB.out | apply below_alloc | apply pw_below_drewN | apply below_drew1) | exact HB.out)) hb); clear HO_3; clear HO_4; clear HB; have HO_3 := n0_; have HO_4 := n1_; have HO870 := n2_; have HB := n3_; clear n0_ n1_ n2_ n3_; (try clear hb); (try clear hb2); (try clear hk); (try clear hi); (try clear ho0); obtain ⟨Ao15, co15, eo15⟩ := Kd.S_slice HO870.out; subst eo15) | ((with_reducible refine gate_dst (N := 7) rfl ?_); refine box_event ?hg (N := 7) ?hd (cs := #[.int .i64 0, .slice none 0 0]) (t := 53) ?hr ?_; (case hd => rfl); (case hg => rfl); (case hr => first | (go_simp; done) | (go_simp; rfl)); intro gb871 hg w16 hbox hb; have n0_ := Aside0.mk (Kd.R_below (Kd.R_elderB (by (with_reducible repeat (first | apply Kd.R_alloc | apply Kd.R_drewN | apply Kd.R_drew)); exact HO_3.out) gb871 (Nat.le_of_eq hg.symm)) hb); have n1_ := Aside0.mk (Kd.R_below (by (with_reducible repeat (first | apply Kd.R_alloc | apply Kd.R_drewN | apply Kd.R_drew)); exact HO_4.out) hb); have n2_ := Aside0.mk (Kd.S_below (by (with_reducible repeat (first | apply Kd.S_alloc | apply Kd.S_drewN | apply Kd.S_drew)); exact HO870.out) hb); have n3_ := Aside0.mk (below_step (by repeat (first | (with_reducible first | exact HB.out | apply below_alloc | apply pw_below_drewN | apply below_drew1) | exact HB.out)) hb); have n4_ := Aside0.mk (hbox); have n5_ := Aside0.mk ((by rw [hg]; exact (below_size (by repeat (first | (with_reducible first | exact HB.out | apply below_alloc | apply pw_below_drewN | apply below_drew1) | exact HB.out))) : w.heap.size ≤ gb871)); have n6_ := Aside0.mk ((by rw [hg]; exact (below_size (by repeat (first | (with_reducible first | exact HB.out | apply below_alloc | apply pw_below_drewN | apply below_drew1) | exact HB.out))) : w.heap.size ≤ gb871)); clear HO_3; clear HO_4; clear HO870; clear HB; have HO_3 := n0_; have HO_4 := n1_; have HO870 := n2_; have HB := n3_; have BK871 := n4_; have GW871 := n5_; have GE871 := n6_; clear n0_ n1_ n2_ n3_ n4_ n5_ n6_; clear hb hbox hg; have hcz17_0 : w16.cell? ⟨gb871, 0, none⟩ = some (.int .i64 0) := (blk_cell BK871.out 0).trans rfl; have hcz17_1 : w16.cell? ⟨gb871, 1, none⟩ = some (.slice none 0 0) := (blk_cell BK871.out 1).trans rfl; have hfz17_0 := blk_frozen BK871.out 0; have hfz17_1 := blk_frozen BK871.out 1))
         go_loopg [8, 32] k2 (fun kq v8 v32 w' => ∃ (x8_3 : Int) (x32_3 : Int) (x872000_3 : Int) (x872001_3 : List (S39)) (u872001 : Value), v8 = .int .i64 x8_3 ∧ v32 = .int .i64 x32_3 ∧ Aside0 (impl_PackOf.l1 kq l0 x3_2 x4_2 (rd_L2 l0 x23_2) x8_3 l0 (l0.length : Int) x23_2 x23_2 x32_3 x872000_3 x872001_3 = some r) ∧ Aside0 (kq ≤ k2) ∧ Aside0 (Kd.R k53 53 w' w.heap.size (fun k_ => some k_ ≠ (u872001 : Value).ownBlock ∧ k_ ≠ gb871) u3 x3_2) ∧ Aside0 (Kd.R (Kd.int .i64) 3 w' w.heap.size (fun _ => True) u4 x4_2) ∧ Aside0 (Kd.S k39 39 w' w.heap.size (fun _ => True) u872001 x872001_3) ∧ Aside0 (w'.heap[gb871]? = some (.cells #[.int .i64 x872000_3, u872001] 53 (0, 0))) ∧ Aside0 (Below w.heap.size w w'))
         case atStart => exact ⟨(1), (0), ((-1)), (t868), (.slice Ao15 t868.length co15), (by first | rfl | (simp; done) | (simp [*]; done)), (by first | rfl | (simp; done) | (simp [*]; done)), H', ⟨Nat.le_refl _⟩, ⟨by (with_reducible repeat (first | apply Kd.R_alloc | apply Kd.R_drewN | apply Kd.R_drew)); exact Kd.R_mono (Kd.R_far (p := ⟨gb871, 1, none⟩) (Kd.R_far (p := ⟨gb871, 0, none⟩) (Kd.R_mono HO_3.out (fun k_ hk => (⟨hk, hk.2⟩ : _ ∧ k_ ≠ gb871))) (fun _ hk => hk.2) (.int .i64 (-1))) (fun _ hk => hk.2) (.slice Ao15 t868.length co15)) (fun _ hk => ⟨hk.1.1.2, hk.1.2⟩)⟩, ⟨by (with_reducible repeat (first | apply Kd.R_alloc | apply Kd.R_drewN | apply Kd.R_drew)); exact Kd.R_mono (Kd.R_far (p := ⟨gb871, 1, none⟩) (Kd.R_far (p := ⟨gb871, 0, none⟩) (Kd.R_types HO_4.out BK871.out (by decide)) (fun _ hk => hk.2) (.int .i64 (-1))) (fun _ hk => hk.2) (.slice Ao15 t868.length co15)) (fun _ hk => trivial)⟩, ⟨by (with_reducible repeat (first | apply Kd.S_alloc | apply Kd.S_drewN | apply Kd.S_drew)); exact Kd.S_mono (Kd.S_far (p := ⟨gb871, 1, none⟩) (Kd.S_far (p := ⟨gb871, 0, none⟩) (Kd.S_types HO870.out BK871.out (by decide)) (fun _ hk => hk.2) (.int .i64 (-1))) (fun _ hk => hk.2) (.slice Ao15 t868.length co15)) (fun _ hk => trivial)⟩, ⟨by (with_reducible repeat (first | refine blk_drewN ?_ _ | refine blk_drew ?_ | refine blk_alloc ?_ _)); refine blk_put (cs := #[.int .i64 (-1), .slice none 0 0]) ?_ 1 _ rfl; (with_reducible repeat (first | refine blk_drewN ?_ _ | refine blk_drew ?_ | refine blk_alloc ?_ _)); refine blk_put (cs := #[.int .i64 0, .slice none 0 0]) ?_ 0 _ rfl; (with_reducible repeat (first | refine blk_drewN ?_ _ | refine blk_drew ?_ | refine blk_alloc ?_ _)); exact BK871.out⟩, ⟨by repeat (first | (with_reducible first | exact HB.out | apply below_alloc | apply pw_below_drewN | apply below_drew1 | refine below_set ?_ GE871.out) | exact HB.out)⟩⟩
         case round =>
          clear H'; (try clear c1); (try clear p2); (try clear c4); (try clear c7); (try clear c7b0); (try clear c7b1); (try clear c8); (try clear p8); (try clear q8); (try clear hx8); (try clear c9); (try clear c10); (try clear c10b0); (try clear c11); (try clear c11b0); (try clear c12); (try clear c12b0); (try clear hcz17_0); (try clear hcz17_1); (try clear hfz17_0); (try clear hfz17_1); (try clear hx867_0); (try clear p2); (try clear p867); (try clear q867); obtain ⟨x8_3, x32_3, x872000_3, x872001_3, u872001, rfl, rfl, HA, HK3, HO_3, HO_4, HO_872001, BK871, HB⟩ := hrel
          cases gk with
          | zero => exact absurd HA.out (by simp [impl_PackOf.l1])
          | succ k3 =>
           have H := HA.out; clear HA; simp only [impl_PackOf.l1] at H; by_cases c18 : x32_3 < x23_2
           ·rw [if_pos c18] at H; have c18b0 : decide (x32_3 < x23_2) = true := decide_eq_true c18; clear c18; by_cases c19 : 0 ≤ x32_3
            ·rw [if_pos c19] at H; have c19b0 : decide (0 ≤ x32_3) = true := decide_eq_true c19; clear c19; by_cases c20 : x32_3 < (x4_2.length : Int)
             ·rw [if_pos c20] at H; have c20b0 : decide (x32_3 < (x4_2.length : Int)) = true := decide_eq_true c20; clear c20; by_cases c21 : (rd x4_2 x32_3) ≥ 3
              ·rw [if_pos c21] at H; have c21b0 : decide (3 ≤ (rd x4_2 x32_3)) = true := decide_eq_true c21; clear c21; have H' := Aside0.mk H; clear H; obtain ⟨Ao22, co22, eo22⟩ := Kd.R_slice HO_4.out; subst eo22; have p878 : 0 ≤ (x32_3 : Int) := of_decide_eq_true (by assumption); have q878 : x32_3 < (x4_2.length : Int) := of_decide_eq_true (by assumption); obtain ⟨ad878, e878, hx878_0⟩ := Kd.at_int (Kd.R_reads' HO_4.out).2.2 x32_3 p878 q878; cases e878; replace p878 := eq_true p878; replace q878 := eq_true q878; go_wp2; go_roundg k3
               case measure => have := HJ1.out; have := HK2.out; have := HK3.out; omega
               case rel => exact ⟨(x8_3), (wrap64 (x32_3 + 1)), (x872000_3), (x872001_3), (u872001), (by first | rfl | (simp; done) | (simp [*]; done)), (by first | rfl | (simp; done) | (simp [*]; done)), H', ⟨by have := HJ1.out; have := HK2.out; have := HK3.out; omega⟩, ⟨by (with_reducible repeat (first | apply Kd.R_alloc | apply Kd.R_drewN | apply Kd.R_drew)); exact HO_3.out⟩, ⟨by (with_reducible repeat (first | apply Kd.R_alloc | apply Kd.R_drewN | apply Kd.R_drew)); exact HO_4.out⟩, ⟨by (with_reducible repeat (first | apply Kd.S_alloc | apply Kd.S_drewN | apply Kd.S_drew)); exact HO_872001.out⟩, ⟨by (with_reducible repeat (first | refine blk_drewN ?_ _ | refine blk_drew ?_ | refine blk_alloc ?_ _)); exact BK871.out⟩, ⟨by repeat (first | (with_reducible first | exact HB.out | apply below_alloc | apply pw_below_drewN | apply below_drew1 | refine below_set ?_ GE871.out) | exact HB.out)⟩⟩
              ·rw [if_neg c21] at H; have c21b0 : decide (3 ≤ (rd x4_2 x32_3)) = false := decide_eq_false c21; clear c21; by_cases c23 : x32_3 < (l0.length : Int)
               ·rw [if_pos c23] at H; have c23b0 : decide (x32_3 < (l0.length : Int)) = true := decide_eq_true c23; clear c23; replace H := Option.bind_eq_some_iff.mp H; obtain ⟨t880, A240, H⟩ := H; replace H : ((impl_deltaSize.f k3 t880).bind fun t883 => ((impl_deltaSize.f k3 x872001_3).bind fun t884 => (if t883 < t884 then (impl_PackOf.l1 k3 l0 x3_2 x4_2 (rd_L2 l0 x23_2) (wrap64 ((rd x4_2 x32_3) + 1)) l0 (l0.length : Int) x23_2 x23_2 (wrap64 (x32_3 + 1)) x32_3 t880) else (impl_PackOf.l1 k3 l0 x3_2 x4_2 (rd_L2 l0 x23_2) x8_3 l0 (l0.length : Int) x23_2 x23_2 (wrap64 (x32_3 + 1)) x872000_3 x872001_3)))) = some r := H; have A24 := Aside0.mk A240; clear A240; replace H := Option.bind_eq_some_iff.mp H; obtain ⟨t883, A250, H⟩ := H; replace H : ((impl_deltaSize.f k3 x872001_3).bind fun t884 => (if t883 < t884 then (impl_PackOf.l1 k3 l0 x3_2 x4_2 (rd_L2 l0 x23_2) (wrap64 ((rd x4_2 x32_3) + 1)) l0 (l0.length : Int) x23_2 x23_2 (wrap64 (x32_3 + 1)) x32_3 t880) else (impl_PackOf.l1 k3 l0 x3_2 x4_2 (rd_L2 l0 x23_2) x8_3 l0 (l0.length : Int) x23_2 x23_2 (wrap64 (x32_3 + 1)) x872000_3 x872001_3))) = some r := H; have A25 := Aside0.mk A250; clear A250; replace H := Option.bind_eq_some_iff.mp H; obtain ⟨t884, A260, H⟩ := H; replace H : (if t883 < t884 then (impl_PackOf.l1 k3 l0 x3_2 x4_2 (rd_L2 l0 x23_2) (wrap64 ((rd x4_2 x32_3) + 1)) l0 (l0.length : Int) x23_2 x23_2 (wrap64 (x32_3 + 1)) x32_3 t880) else (impl_PackOf.l1 k3 l0 x3_2 x4_2 (rd_L2 l0 x23_2) x8_3 l0 (l0.length : Int) x23_2 x23_2 (wrap64 (x32_3 + 1)) x872000_3 x872001_3)) = some r := H; have A26 := Aside0.mk A260; clear A260; by_cases c27 : t883 < t884
                ·rw [if_pos c27] at H; have c27b0 : decide (t883 < t884) = true := decide_eq_true c27; clear c27; have H' := Aside0.mk H; clear H; obtain ⟨Ao28, co28, eo28⟩ := Kd.R_slice HO_4.out; subst eo28; have p878 : 0 ≤ (x32_3 : Int) := of_decide_eq_true (by assumption); have q878 : x32_3 < (x4_2.length : Int) := of_decide_eq_true (by assumption); obtain ⟨ad878, e878, hx878_0⟩ := Kd.at_int (Kd.R_reads' HO_4.out).2.2 x32_3 p878 q878; cases e878; replace p878 := eq_true p878; replace q878 := eq_true q878; have p879 : 0 ≤ (x32_3 : Int) := of_decide_eq_true (by assumption); have q879 : x32_3 < (l0.length : Int) := of_decide_eq_true (by assumption); obtain ⟨ad879, A879_0, c879_0, e879, hx879_0, hl879_0, hi879_0⟩ := at_L2 HR0.out x32_3 p879 q879; obtain rfl : ad867 = ad879 := (by injection e879); replace hx879_0 := (HB.out.cell (World.block_lt_of_cell? w _ hx879_0)).trans hx879_0; have HR879_0 := Aside0.mk hi879_0; have HC879_0 := Aside0.mk hl879_0; clear hi879_0 hl879_0; replace p879 := eq_true p879; replace q879 := eq_true q879; (try go_wp2_with (first | ((with_reducible refine gate_callee (f := 70) rfl ?_); refine goesL_ (some 45) rfl rfl Try.func70 (by kernel_rfl) rfl #[.slice A879_0 (rd_L2 l0 x32_3).length c879_0, .slice A867_0 (rd_L2 l0 x23_2).length c867_0] rfl (by (try simp only [List.map_toArray, List.map_cons, List.map_nil]); first | done | rfl | (simp only [List.length_drop, List.length_take]; rfl)) ?_; (with_reducible refine (impl_deltaOf.calls k3 _ _ (rd_L2 l0 x32_3) (fun k_ => k_ < w.heap.size) _ _ (rd_L2 l0 x23_2) t880 _ ?side1 ?side2 ?side3 A24.out).mono ?_); (case side1 => repeat (first | exact (Kd.C_below HR879_0.out HB.out) | (with_reducible refine Kd.C_alloc ?_ _) | (with_reducible refine Kd.C_drewN ?_ _) | (with_reducible refine Kd.C_drew ?_))); (case side2 => exact HC879_0.out); (case side3 => exact Kd.V_mk HC867_0.out (Kd.F_below (Kd.C_F Kd.heap_string HR867_0.out) (by repeat (first | (with_reducible first | exact HB.out | apply below_alloc | apply pw_below_drewN | apply below_drew1 | refine below_set ?_ GE871.out) | exact HB.out)))); rintro e w29 ⟨v881, rfl, ho0, hb⟩; refine ⟨_, rfl, ?_⟩; have n0_ := Aside0.mk (Kd.R_elder' (by (with_reducible repeat (first | apply Kd.R_alloc | apply Kd.R_drewN | apply Kd.R_drew)); exact HO_3.out) (Kd.S_base ho0) hb); have n1_ := Aside0.mk (Kd.R_below (by (with_reducible repeat (first | apply Kd.R_alloc | apply Kd.R_drewN | apply Kd.R_drew)); exact HO_4.out) hb); have n2_ := Aside0.mk (Kd.S_elder' (by (with_reducible repeat (first | apply Kd.S_alloc | apply Kd.S_drewN | apply Kd.S_drew)); exact HO_872001.out) (Kd.S_base ho0) hb); have n3_ := Aside0.mk (Kd.S_lower (Kd.S_new' (Kd.S_mono (ok' := fun k_ => True) ho0 (fun _ hk_ => trivial)) (Kd.S_lt (by (with_reducible repeat (first | apply Kd.S_alloc | apply Kd.S_drewN | apply Kd.S_drew)); exact HO_872001.out))) (below_size (by repeat (first | (with_reducible first | exact HB.out | apply below_alloc | apply pw_below_drewN | apply below_drew1 | refine below_set ?_ GE871.out) | exact HB.out)))); have n4_ := Aside0.mk (blk_below (g := gb871) (o := .cells #[.int .i64 x872000_3, u872001] 53 (0, 0)) (by (with_reducible repeat (first | refine blk_drewN ?_ _ | refine blk_drew ?_ | refine blk_alloc ?_ _)); exact BK871.out) hb); have n5_ := Aside0.mk (below_step (by repeat (first | (with_reducible first | exact HB.out | apply below_alloc | apply pw_below_drewN | apply below_drew1 | refine below_set ?_ GE871.out) | exact HB.out)) hb); clear HO_3; clear HO_4; clear HO_872001; clear BK871; clear HB; have HO_3 := n0_; have HO_4 := n1_; have HO_872001 := n2_; have HO882 := n3_; have BK871 := n4_; have HB := n5_; clear n0_ n1_ n2_ n3_ n4_ n5_; (try clear hb); (try clear hb2); (try clear hk); (try clear hi); (try clear ho0))))
                 have n0_ := Aside0.mk (Kd.R_drew HO_3.out); have n1_ := Aside0.mk (Kd.R_drew HO_4.out); have n2_ := Aside0.mk (Kd.S_drew HO_872001.out); have n3_ := Aside0.mk (Kd.S_drew HO882.out); have n4_ := Aside0.mk (blk_drew BK871.out); have n5_ := Aside0.mk (below_drew1 HB.out); clear HO_3; clear HO_4; clear HO_872001; clear HO882; clear BK871; clear HB; have HO_3 := n0_; have HO_4 := n1_; have HO_872001 := n2_; have HO882 := n3_; have BK871 := n4_; have HB := n5_; clear n0_ n1_ n2_ n3_ n4_ n5_; obtain ⟨Ao31, co31, eo31⟩ := Kd.S_slice HO882.out
                 (first | subst eo31 | (injection eo31 with f1_ f2_ f3_; have f4_ := f1_.symm; have f5_ := f3_.symm; clear f1_ f2_ f3_; subst f4_; subst f5_))
                 refine start_ (n := 6) (S := fun w' => w'.cell? ⟨gb871, 0, none⟩ = some (.int .i64 x872000_3) ∧ w'.cell? ⟨gb871, 1, none⟩ = some (u872001)) (ds := []) #[f_, f_, f_, f_, f_, f_] (by kernel_rfl) rfl rfl ⟨(blk_cell BK871.out 0).trans rfl, (blk_cell BK871.out 1).trans rfl⟩ (fun hHeld => ?_); generalize w29.drew = w30 at HO_3 HO_4 HO_872001 HO882 BK871 HB hHeld ⊢; refine pure_ (i := 0) (N := some 46) (v := ?_) (a' := ?_) #[t_, f_, f_, f_, f_, f_] rfl rfl (by kernel_rfl) (fun _ _ _ h => h) (Or.inl ⟨by rfl, ?_⟩) ?_ ?_
                 rotate_left
                 ·intro w'; go_simp
                  with_reducible rfl
                 rotate_left
                 ·simp only [Act.put, List.setIfInBounds_toArray, List.set_cons_zero, List.set_cons_succ, i64_w, i32_w]
                  rfl
                 refine pure_ (i := 2) (N := some 48) (v := ?_) (a' := ?_) #[t_, f_, t_, f_, f_, f_] rfl rfl (by kernel_rfl) (fun _ _ _ h => h) (Or.inl ⟨by rfl, ?_⟩) ?_ ?_
                 rotate_left
                 ·intro w'; go_simp
                  with_reducible rfl
                 rotate_left
                 ·simp only [Act.put, List.setIfInBounds_toArray, List.set_cons_zero, List.set_cons_succ, i64_w, i32_w]
                  rfl
                 refine take_ (i := 3) (N := some 49) (v := ?_) (a' := ?_) #[t_, f_, t_, t_, f_, f_] rfl rfl (by kernel_rfl) (fun _ _ _ h => h) (Or.inl ⟨by rfl, ?_⟩) hHeld ?_ ?_
                 rotate_left
                 ·rintro w' ⟨s0, s1⟩; go_simp
                  with_reducible rfl
                 rotate_left
                 ·simp only [Act.put, List.setIfInBounds_toArray, List.set_cons_zero, List.set_cons_succ, i64_w, i32_w]
                  rfl
                 refine one_ (i := 1) (N := some 47) #[t_, t_, t_, t_, f_, f_] rfl rfl (by kernel_rfl) (by decide) (fun K hK => ?_); refine goes_ Try.func89 (by kernel_rfl) rfl #[.slice Ao31 t880.length co31] (by rfl) rfl rfl (by (try simp only [List.map_toArray, List.map_cons, List.map_nil]); first | done | rfl | (simp only [List.length_drop, List.length_take]; rfl)) ?_
                 with_reducible refine (impl_deltaSize.calls k3 _ _ t880 t883 _ ?side1 ?side2 A25.out).mono ?_
                 (case side1 => repeat (first | exact (Kd.S_reads' HO882.out).2.2 | (with_reducible refine Kd.C_alloc ?_ _) | (with_reducible refine Kd.C_drewN ?_ _) | (with_reducible refine Kd.C_drew ?_)))
                 (case side2 => exact (Kd.S_reads' HO882.out).2.1)
                 rintro e w32 ⟨rfl, hb⟩; refine ⟨_, rfl, ?_⟩; have n0_ := Aside0.mk (Kd.R_below (by (with_reducible repeat (first | apply Kd.R_alloc | apply Kd.R_drewN | apply Kd.R_drew)); exact HO_3.out) hb); have n1_ := Aside0.mk (Kd.R_below (by (with_reducible repeat (first | apply Kd.R_alloc | apply Kd.R_drewN | apply Kd.R_drew)); exact HO_4.out) hb); have n2_ := Aside0.mk (Kd.S_below (by (with_reducible repeat (first | apply Kd.S_alloc | apply Kd.S_drewN | apply Kd.S_drew)); exact HO_872001.out) hb); have n3_ := Aside0.mk (Kd.S_below (by (with_reducible repeat (first | apply Kd.S_alloc | apply Kd.S_drewN | apply Kd.S_drew)); exact HO882.out) hb); have n4_ := Aside0.mk (blk_below (g := gb871) (o := .cells #[.int .i64 x872000_3, u872001] 53 (0, 0)) (by (with_reducible repeat (first | refine blk_drewN ?_ _ | refine blk_drew ?_ | refine blk_alloc ?_ _)); exact BK871.out) hb); have n5_ := Aside0.mk (below_step (by repeat (first | (with_reducible first | exact HB.out | apply below_alloc | apply pw_below_drewN | apply below_drew1 | refine below_set ?_ GE871.out) | exact HB.out)) hb); clear HO_3; clear HO_4; clear HO_872001; clear HO882; clear BK871; clear HB; have HO_3 := n0_; have HO_4 := n1_; have HO_872001 := n2_; have HO882 := n3_; have BK871 := n4_; have HB := n5_; clear n0_ n1_ n2_ n3_ n4_ n5_
                 (try clear hb)
                 (try clear hb2)
                 (try clear hk)
                 (try clear hi)
                 obtain ⟨Ao33, co33, eo33⟩ := Kd.S_slice HO_872001.out
                 (first | subst eo33 | (injection eo33 with f1_ f2_ f3_; have f4_ := f1_.symm; have f5_ := f3_.symm; clear f1_ f2_ f3_; subst f4_; subst f5_))
                 refine hK.out _ _ ⟨(blk_cell BK871.out 0).trans rfl, (blk_cell BK871.out 1).trans rfl⟩ (fun hHeld => ?_); clear hK K; refine norm_ (a' := ?_) ?_ ?_
                 rotate_left
                 ·show Act.put _ (some 47) _ = _
                  simp only [Act.put, List.setIfInBounds_toArray, List.set_cons_zero, List.set_cons_succ, i64_w, i32_w]
                  rfl
                 refine one_ (i := 4) (N := some 50) #[t_, t_, t_, t_, t_, f_] rfl rfl (by kernel_rfl) (by decide) (fun K hK => ?_); refine goes_ Try.func89 (by kernel_rfl) rfl #[.slice Ao33 x872001_3.length co33] (by rfl) rfl rfl (by (try simp only [List.map_toArray, List.map_cons, List.map_nil]); first | done | rfl | (simp only [List.length_drop, List.length_take]; rfl)) ?_
                 with_reducible refine (impl_deltaSize.calls k3 _ _ x872001_3 t884 _ ?side1 ?side2 A26.out).mono ?_
                 (case side1 => repeat (first | exact (Kd.S_reads' HO_872001.out).2.2 | (with_reducible refine Kd.C_alloc ?_ _) | (with_reducible refine Kd.C_drewN ?_ _) | (with_reducible refine Kd.C_drew ?_)))
                 (case side2 => exact (Kd.S_reads' HO_872001.out).2.1)
                 rintro e w34 ⟨rfl, hb⟩; refine ⟨_, rfl, ?_⟩; have n0_ := Aside0.mk (Kd.R_below (by (with_reducible repeat (first | apply Kd.R_alloc | apply Kd.R_drewN | apply Kd.R_drew)); exact HO_3.out) hb); have n1_ := Aside0.mk (Kd.R_below (by (with_reducible repeat (first | apply Kd.R_alloc | apply Kd.R_drewN | apply Kd.R_drew)); exact HO_4.out) hb); have n2_ := Aside0.mk (Kd.S_below (by (with_reducible repeat (first | apply Kd.S_alloc | apply Kd.S_drewN | apply Kd.S_drew)); exact HO_872001.out) hb); have n3_ := Aside0.mk (Kd.S_below (by (with_reducible repeat (first | apply Kd.S_alloc | apply Kd.S_drewN | apply Kd.S_drew)); exact HO882.out) hb); have n4_ := Aside0.mk (blk_below (g := gb871) (o := .cells #[.int .i64 x872000_3, .slice Ao33 x872001_3.length co33] 53 (0, 0)) (by (with_reducible repeat (first | refine blk_drewN ?_ _ | refine blk_drew ?_ | refine blk_alloc ?_ _)); exact BK871.out) hb); have n5_ := Aside0.mk (below_step (by repeat (first | (with_reducible first | exact HB.out | apply below_alloc | apply pw_below_drewN | apply below_drew1 | refine below_set ?_ GE871.out) | exact HB.out)) hb); clear HO_3; clear HO_4; clear HO_872001; clear HO882; clear BK871; clear HB; have HO_3 := n0_; have HO_4 := n1_; have HO_872001 := n2_; have HO882 := n3_; have BK871 := n4_; have HB := n5_; clear n0_ n1_ n2_ n3_ n4_ n5_
                 (try clear hb)
                 (try clear hb2)
                 (try clear hk)
                 (try clear hi)
                 refine hK.out _ _ ⟨(blk_cell BK871.out 0).trans rfl, (blk_cell BK871.out 1).trans rfl⟩ (fun hHeld => ?_); clear hK K; refine norm_ (a' := ?_) ?_ ?_
                 rotate_left
                 ·show Act.put _ (some 50) _ = _
                  simp only [Act.put, List.setIfInBounds_toArray, List.set_cons_zero, List.set_cons_succ, i64_w, i32_w]
                  rfl
                 refine pure_ (i := 5) (N := some 51) (v := ?_) (a' := ?_) #[t_, t_, t_, t_, t_, t_] rfl rfl (by kernel_rfl) (fun _ _ _ h => h) (Or.inl ⟨by rfl, ?_⟩) ?_ ?_
                 rotate_left
                 ·intro w'; go_simp
                  with_reducible rfl
                 rotate_left
                 ·simp only [Act.put, List.setIfInBounds_toArray, List.set_cons_zero, List.set_cons_succ, i64_w, i32_w]
                  rfl
                 refine done_ (by kernel_rfl) ?_; (try go_wp2); have n0_ := Aside0.mk (Kd.R_drew HO_3.out); have n1_ := Aside0.mk (Kd.R_drew HO_4.out); have n2_ := Aside0.mk (Kd.S_drew HO_872001.out); have n3_ := Aside0.mk (Kd.S_drew HO882.out); have n4_ := Aside0.mk (blk_drew BK871.out); have n5_ := Aside0.mk (below_drew1 HB.out); clear HO_3; clear HO_4; clear HO_872001; clear HO882; clear BK871; clear HB; have HO_3 := n0_; have HO_4 := n1_; have HO_872001 := n2_; have HO882 := n3_; have BK871 := n4_; have HB := n5_; clear n0_ n1_ n2_ n3_ n4_ n5_; have p885 : 0 ≤ (x32_3 : Int) := of_decide_eq_true (by assumption); have q885 : x32_3 < (x4_2.length : Int) := of_decide_eq_true (by assumption); obtain ⟨ad885, e885, hx885_0⟩ := Kd.at_int (Kd.R_reads' HO_4.out).2.2 x32_3 p885 q885; obtain rfl : ad878 = ad885 := (by injection e885); replace p885 := eq_true p885; replace q885 := eq_true q885; refine start_ (n := 10) (S := fun w' => w'.cell? (ad878.add (x32_3).toNat) = some (.int .i64 (rd x4_2 x32_3))) (ds := []) #[f_, f_, f_, f_, f_, f_, f_, f_, f_, f_] (by kernel_rfl) rfl rfl (hx885_0) (fun hHeld => ?_); refine with_tabW impl_PackOf.tab14 impl_PackOf.bits14 (fun HT_ HW_ => ?_); generalize w34.drew = w35 at HO_3 HO_4 HO_872001 HO882 BK871 HB hx885_0 hHeld ⊢; refine pure_ (i := 0) (N := some 52) (v := ?_) (a' := ?_) #[t_, f_, f_, f_, f_, f_, f_, f_, f_, f_] rfl rfl (any_of HT_.out (by kernel_rfl)) (fun _ _ _ h => h) (Or.inl ⟨by rfl, ?_⟩) ?_ ?_
                 rotate_left
                 ·intro w'; go_simp
                  with_reducible rfl
                 rotate_left
                 ·simp only [Act.put, List.setIfInBounds_toArray, List.set_cons_zero, List.set_cons_succ, i64_w, i32_w]
                  rfl
                 refine pure_ (i := 1) (N := some 53) (v := ?_) (a' := ?_) #[t_, t_, f_, f_, f_, f_, f_, f_, f_, f_] rfl rfl (any_of HT_.out (by kernel_rfl)) (fun _ _ _ h => h) (Or.inl ⟨by rfl, ?_⟩) ?_ ?_
                 rotate_left
                 ·intro w'; go_simp
                  with_reducible rfl
                 rotate_left
                 ·simp only [Act.put, List.setIfInBounds_toArray, List.set_cons_zero, List.set_cons_succ, i64_w, i32_w]
                  rfl
                 refine pure_ (i := 2) (N := some 54) (v := ?_) (a' := ?_) #[t_, t_, t_, f_, f_, f_, f_, f_, f_, f_] rfl rfl (any_of HT_.out (by kernel_rfl)) (fun _ _ _ h => h) (Or.inl ⟨by rfl, ?_⟩) ?_ ?_
                 rotate_left
                 ·intro w'; go_simp
                  with_reducible rfl
                 rotate_left
                 ·simp only [Act.put, List.setIfInBounds_toArray, List.set_cons_zero, List.set_cons_succ, i64_w, i32_w]
                  rfl
                 refine pure_ (i := 3) (N := some 55) (v := ?_) (a' := ?_) #[t_, t_, t_, t_, f_, f_, f_, f_, f_, f_] rfl rfl (any_of HT_.out (by kernel_rfl)) (fun _ _ _ h => h) (Or.inl ⟨by rfl, ?_⟩) ?_ ?_
                 rotate_left
                 ·intro w'; go_simp
                  with_reducible rfl
                 rotate_left
                 ·simp only [Act.put, List.setIfInBounds_toArray, List.set_cons_zero, List.set_cons_succ, i64_w, i32_w]
                  rfl
                 refine pure_ (i := 4) (N := some 56) (v := ?_) (a' := ?_) #[t_, t_, t_, t_, t_, f_, f_, f_, f_, f_] rfl rfl (any_of HT_.out (by kernel_rfl)) (fun _ _ _ h => h) (Or.inl ⟨by rfl, ?_⟩) ?_ ?_
                 rotate_left
                 ·intro w'; go_simp
                  with_reducible rfl
                 rotate_left
                 ·simp only [Act.put, List.setIfInBounds_toArray, List.set_cons_zero, List.set_cons_succ, i64_w, i32_w]
                  rfl
                 refine pure_ (i := 5) (N := some 57) (v := ?_) (a' := ?_) #[t_, t_, t_, t_, t_, t_, f_, f_, f_, f_] rfl rfl (any_of HT_.out (by kernel_rfl)) (fun _ _ _ h => h) (Or.inl ⟨by rfl, ?_⟩) ?_ ?_
                 rotate_left
                 ·intro w'; go_simp
                  with_reducible rfl
                 rotate_left
                 ·simp only [Act.put, List.setIfInBounds_toArray, List.set_cons_zero, List.set_cons_succ, i64_w, i32_w]
                  rfl
                 refine take_ (i := 6) (N := some 58) (v := ?_) (a' := ?_) #[t_, t_, t_, t_, t_, t_, t_, f_, f_, f_] rfl rfl (take_ofW HT_.out HW_.out (by kernel_rfl)) (fun _ _ _ h => h) (Or.inl ⟨by rfl, ?_⟩) hHeld ?_ ?_
                 rotate_left
                 ·intro w' s0; go_simp
                  with_reducible rfl
                 rotate_left
                 ·simp only [Act.put, List.setIfInBounds_toArray, List.set_cons_zero, List.set_cons_succ, i64_w, i32_w]
                  rfl
                 refine pure_ (i := 7) (N := some 59) (v := ?_) (a' := ?_) #[t_, t_, t_, t_, t_, t_, t_, t_, f_, f_] rfl rfl (any_of HT_.out (by kernel_rfl)) (fun _ _ _ h => h) (Or.inl ⟨by rfl, ?_⟩) ?_ ?_
                 rotate_left
                 ·intro w'; go_simp
                  with_reducible rfl
                 rotate_left
                 ·simp only [Act.put, List.setIfInBounds_toArray, List.set_cons_zero, List.set_cons_succ, i64_w, i32_w]
                  rfl
                 refine one_ (i := 8) (N := none) #[t_, t_, t_, t_, t_, t_, t_, t_, t_, f_] rfl rfl (one_of HT_.out (by kernel_rfl)) (by decide) (fun K hK => ?_); have hs36 : w35.cell? ⟨gb871, 0, none⟩ = some (.int .i64 x872000_3) := (blk_cell BK871.out 0).trans rfl; have hfs36 := blk_frozen BK871.out 0; have hs37 : w35.cell? ⟨gb871, 1, none⟩ = some (.slice Ao33 x872001_3.length co33) := (blk_cell BK871.out 1).trans rfl; have hfs37 := blk_frozen BK871.out 1; refine skip_ (w1 := ?_) (by rfl) rfl ?_ ?_
                 rotate_left
                 ·go_simp
                  rfl
                 refine hK.out _ _ (((cell_far (p := ⟨gb871, _, none⟩) (by first | exact Kd.own_blk (Kd.R_ne HO_4.out BK871.out (by decide)) | (rw [add_block]; exact Kd.own_blk (Kd.R_ne HO_4.out BK871.out (by decide))) | (show (Addr.add _ _).block ≠ _; rw [add_block]; exact Kd.own_blk (Kd.R_ne HO_4.out BK871.out (by decide))) | (dsimp only; exact Kd.own_blk (Kd.R_ne HO_4.out BK871.out (by decide)))) _).trans (((cell_far (p := ⟨gb871, _, none⟩) (by first | exact Kd.own_blk (Kd.R_ne HO_4.out BK871.out (by decide)) | (rw [add_block]; exact Kd.own_blk (Kd.R_ne HO_4.out BK871.out (by decide))) | (show (Addr.add _ _).block ≠ _; rw [add_block]; exact Kd.own_blk (Kd.R_ne HO_4.out BK871.out (by decide))) | (dsimp only; exact Kd.own_blk (Kd.R_ne HO_4.out BK871.out (by decide)))) _).trans (hHeld))))) (fun hHeld => ?_); clear hK K; refine pure_ (i := 9) (N := some 8) (v := ?_) (a' := ?_) #[t_, t_, t_, t_, t_, t_, t_, t_, t_, t_] rfl rfl (any_of HT_.out (by kernel_rfl)) (fun _ _ _ h => h) (Or.inl ⟨by rfl, ?_⟩) ?_ ?_
                 rotate_left
                 ·intro w'; go_simp
                  with_reducible rfl
                 rotate_left
                 ·simp only [Act.put, List.setIfInBounds_toArray, List.set_cons_zero, List.set_cons_succ, i64_w, i32_w]
                  rfl
                 refine done_ (done_of HT_.out (by kernel_rfl)) ?_; (try go_wp2); go_roundg k3
                 case measure => have := HJ1.out; have := HK2.out; have := HK3.out; omega
                 case rel => exact ⟨(wrap64 ((rd x4_2 x32_3) + 1)), (wrap64 (x32_3 + 1)), (x32_3), (t880), (.slice Ao31 t880.length co31), (by first | rfl | (simp; done) | (simp [*]; done)), (by first | rfl | (simp; done) | (simp [*]; done)), H', ⟨by have := HJ1.out; have := HK2.out; have := HK3.out; omega⟩, ⟨by (with_reducible repeat (first | apply Kd.R_alloc | apply Kd.R_drewN | apply Kd.R_drew)); exact Kd.R_mono (Kd.R_far (p := ⟨gb871, 1, none⟩) (Kd.R_far (p := ⟨gb871, 0, none⟩) (Kd.R_mono HO_3.out (fun k_ hk => (⟨hk, hk.1.2⟩ : _ ∧ k_ ≠ gb871))) (fun _ hk => hk.2) (.int .i64 x32_3)) (fun _ hk => hk.2) (.slice Ao31 t880.length co31)) (fun _ hk => ⟨hk.1.2, hk.1.1.2⟩)⟩, ⟨by (with_reducible repeat (first | apply Kd.R_alloc | apply Kd.R_drewN | apply Kd.R_drew)); exact Kd.R_mono (Kd.R_far (p := ⟨gb871, 1, none⟩) (Kd.R_far (p := ⟨gb871, 0, none⟩) (Kd.R_types HO_4.out BK871.out (by decide)) (fun _ hk => hk.2) (.int .i64 x32_3)) (fun _ hk => hk.2) (.slice Ao31 t880.length co31)) (fun _ hk => trivial)⟩, ⟨by (with_reducible repeat (first | apply Kd.S_alloc | apply Kd.S_drewN | apply Kd.S_drew)); exact Kd.S_mono (Kd.S_far (p := ⟨gb871, 1, none⟩) (Kd.S_far (p := ⟨gb871, 0, none⟩) (Kd.S_types HO882.out BK871.out (by decide)) (fun _ hk => hk.2) (.int .i64 x32_3)) (fun _ hk => hk.2) (.slice Ao31 t880.length co31)) (fun _ hk => trivial)⟩, ⟨by (with_reducible repeat (first | refine blk_drewN ?_ _ | refine blk_drew ?_ | refine blk_alloc ?_ _)); refine blk_put (cs := #[.int .i64 x32_3, .slice Ao33 x872001_3.length co33]) ?_ 1 _ rfl; (with_reducible repeat (first | refine blk_drewN ?_ _ | refine blk_drew ?_ | refine blk_alloc ?_ _)); refine blk_put (cs := #[.int .i64 x872000_3, .slice Ao33 x872001_3.length co33]) ?_ 0 _ rfl; (with_reducible repeat (first | refine blk_drewN ?_ _ | refine blk_drew ?_ | refine blk_alloc ?_ _)); exact BK871.out⟩, ⟨by repeat (first | (with_reducible first | exact HB.out | apply below_alloc | apply pw_below_drewN | apply below_drew1 | refine below_set ?_ GE871.out) | exact HB.out)⟩⟩
                ·rw [if_neg c27] at H; have c27b0 : decide (t883 < t884) = false := decide_eq_false c27; clear c27; have H' := Aside0.mk H; clear H; obtain ⟨Ao38, co38, eo38⟩ := Kd.R_slice HO_4.out; subst eo38; have p878 : 0 ≤ (x32_3 : Int) := of_decide_eq_true (by assumption); have q878 : x32_3 < (x4_2.length : Int) := of_decide_eq_true (by assumption); obtain ⟨ad878, e878, hx878_0⟩ := Kd.at_int (Kd.R_reads' HO_4.out).2.2 x32_3 p878 q878; cases e878; replace p878 := eq_true p878; replace q878 := eq_true q878; have p879 : 0 ≤ (x32_3 : Int) := of_decide_eq_true (by assumption); have q879 : x32_3 < (l0.length : Int) := of_decide_eq_true (by assumption); obtain ⟨ad879, A879_0, c879_0, e879, hx879_0, hl879_0, hi879_0⟩ := at_L2 HR0.out x32_3 p879 q879; obtain rfl : ad867 = ad879 := (by injection e879); replace hx879_0 := (HB.out.cell (World.block_lt_of_cell? w _ hx879_0)).trans hx879_0; have HR879_0 := Aside0.mk hi879_0; have HC879_0 := Aside0.mk hl879_0; clear hi879_0 hl879_0; replace p879 := eq_true p879; replace q879 := eq_true q879; (try go_wp2_with (first | ((with_reducible refine gate_callee (f := 70) rfl ?_); refine goesL_ (some 45) rfl rfl Try.func70 (by kernel_rfl) rfl #[.slice A879_0 (rd_L2 l0 x32_3).length c879_0, .slice A867_0 (rd_L2 l0 x23_2).length c867_0] rfl (by (try simp only [List.map_toArray, List.map_cons, List.map_nil]); first | done | rfl | (simp only [List.length_drop, List.length_take]; rfl)) ?_; (with_reducible refine (impl_deltaOf.calls k3 _ _ (rd_L2 l0 x32_3) (fun k_ => k_ < w.heap.size) _ _ (rd_L2 l0 x23_2) t880 _ ?side1 ?side2 ?side3 A24.out).mono ?_); (case side1 => repeat (first | exact (Kd.C_below HR879_0.out HB.out) | (with_reducible refine Kd.C_alloc ?_ _) | (with_reducible refine Kd.C_drewN ?_ _) | (with_reducible refine Kd.C_drew ?_))); (case side2 => exact HC879_0.out); (case side3 => exact Kd.V_mk HC867_0.out (Kd.F_below (Kd.C_F Kd.heap_string HR867_0.out) (by repeat (first | (with_reducible first | exact HB.out | apply below_alloc | apply pw_below_drewN | apply below_drew1 | refine below_set ?_ GE871.out) | exact HB.out)))); rintro e w39 ⟨v881, rfl, ho0, hb⟩; refine ⟨_, rfl, ?_⟩; have n0_ := Aside0.mk (Kd.R_elder' (by (with_reducible repeat (first | apply Kd.R_alloc | apply Kd.R_drewN | apply Kd.R_drew)); exact HO_3.out) (Kd.S_base ho0) hb); have n1_ := Aside0.mk (Kd.R_below (by (with_reducible repeat (first | apply Kd.R_alloc | apply Kd.R_drewN | apply Kd.R_drew)); exact HO_4.out) hb); have n2_ := Aside0.mk (Kd.S_elder' (by (with_reducible repeat (first | apply Kd.S_alloc | apply Kd.S_drewN | apply Kd.S_drew)); exact HO_872001.out) (Kd.S_base ho0) hb); have n3_ := Aside0.mk (Kd.S_lower (Kd.S_new' (Kd.S_mono (ok' := fun k_ => True) ho0 (fun _ hk_ => trivial)) (Kd.S_lt (by (with_reducible repeat (first | apply Kd.S_alloc | apply Kd.S_drewN | apply Kd.S_drew)); exact HO_872001.out))) (below_size (by repeat (first | (with_reducible first | exact HB.out | apply below_alloc | apply pw_below_drewN | apply below_drew1 | refine below_set ?_ GE871.out) | exact HB.out)))); have n4_ := Aside0.mk (blk_below (g := gb871) (o := .cells #[.int .i64 x872000_3, u872001] 53 (0, 0)) (by (with_reducible repeat (first | refine blk_drewN ?_ _ | refine blk_drew ?_ | refine blk_alloc ?_ _)); exact BK871.out) hb); have n5_ := Aside0.mk (below_step (by repeat (first | (with_reducible first | exact HB.out | apply below_alloc | apply pw_below_drewN | apply below_drew1 | refine below_set ?_ GE871.out) | exact HB.out)) hb); clear HO_3; clear HO_4; clear HO_872001; clear BK871; clear HB; have HO_3 := n0_; have HO_4 := n1_; have HO_872001 := n2_; have HO882 := n3_; have BK871 := n4_; have HB := n5_; clear n0_ n1_ n2_ n3_ n4_ n5_; (try clear hb); (try clear hb2); (try clear hk); (try clear hi); (try clear ho0))))
                 have n0_ := Aside0.mk (Kd.R_drew HO_3.out); have n1_ := Aside0.mk (Kd.R_drew HO_4.out); have n2_ := Aside0.mk (Kd.S_drew HO_872001.out); have n3_ := Aside0.mk (Kd.S_drew HO882.out); have n4_ := Aside0.mk (blk_drew BK871.out); have n5_ := Aside0.mk (below_drew1 HB.out); clear HO_3; clear HO_4; clear HO_872001; clear HO882; clear BK871; clear HB; have HO_3 := n0_; have HO_4 := n1_; have HO_872001 := n2_; have HO882 := n3_; have BK871 := n4_; have HB := n5_; clear n0_ n1_ n2_ n3_ n4_ n5_; obtain ⟨Ao41, co41, eo41⟩ := Kd.S_slice HO882.out
                 (first | subst eo41 | (injection eo41 with f1_ f2_ f3_; have f4_ := f1_.symm; have f5_ := f3_.symm; clear f1_ f2_ f3_; subst f4_; subst f5_))
                 refine start_ (n := 6) (S := fun w' => w'.cell? ⟨gb871, 0, none⟩ = some (.int .i64 x872000_3) ∧ w'.cell? ⟨gb871, 1, none⟩ = some (u872001)) (ds := []) #[f_, f_, f_, f_, f_, f_] (by kernel_rfl) rfl rfl ⟨(blk_cell BK871.out 0).trans rfl, (blk_cell BK871.out 1).trans rfl⟩ (fun hHeld => ?_); generalize w39.drew = w40 at HO_3 HO_4 HO_872001 HO882 BK871 HB hHeld ⊢; refine pure_ (i := 0) (N := some 46) (v := ?_) (a' := ?_) #[t_, f_, f_, f_, f_, f_] rfl rfl (by kernel_rfl) (fun _ _ _ h => h) (Or.inl ⟨by rfl, ?_⟩) ?_ ?_
                 rotate_left
                 ·intro w'; go_simp
                  with_reducible rfl
                 rotate_left
                 ·simp only [Act.put, List.setIfInBounds_toArray, List.set_cons_zero, List.set_cons_succ, i64_w, i32_w]
                  rfl
                 refine pure_ (i := 2) (N := some 48) (v := ?_) (a' := ?_) #[t_, f_, t_, f_, f_, f_] rfl rfl (by kernel_rfl) (fun _ _ _ h => h) (Or.inl ⟨by rfl, ?_⟩) ?_ ?_
                 rotate_left
                 ·intro w'; go_simp
                  with_reducible rfl
                 rotate_left
                 ·simp only [Act.put, List.setIfInBounds_toArray, List.set_cons_zero, List.set_cons_succ, i64_w, i32_w]
                  rfl
                 refine take_ (i := 3) (N := some 49) (v := ?_) (a' := ?_) #[t_, f_, t_, t_, f_, f_] rfl rfl (by kernel_rfl) (fun _ _ _ h => h) (Or.inl ⟨by rfl, ?_⟩) hHeld ?_ ?_
                 rotate_left
                 ·rintro w' ⟨s0, s1⟩; go_simp
                  with_reducible rfl
                 rotate_left
                 ·simp only [Act.put, List.setIfInBounds_toArray, List.set_cons_zero, List.set_cons_succ, i64_w, i32_w]
                  rfl
                 refine one_ (i := 1) (N := some 47) #[t_, t_, t_, t_, f_, f_] rfl rfl (by kernel_rfl) (by decide) (fun K hK => ?_); refine goes_ Try.func89 (by kernel_rfl) rfl #[.slice Ao41 t880.length co41] (by rfl) rfl rfl (by (try simp only [List.map_toArray, List.map_cons, List.map_nil]); first | done | rfl | (simp only [List.length_drop, List.length_take]; rfl)) ?_
                 with_reducible refine (impl_deltaSize.calls k3 _ _ t880 t883 _ ?side1 ?side2 A25.out).mono ?_
                 (case side1 => repeat (first | exact (Kd.S_reads' HO882.out).2.2 | (with_reducible refine Kd.C_alloc ?_ _) | (with_reducible refine Kd.C_drewN ?_ _) | (with_reducible refine Kd.C_drew ?_)))
                 (case side2 => exact (Kd.S_reads' HO882.out).2.1)
                 rintro e w42 ⟨rfl, hb⟩; refine ⟨_, rfl, ?_⟩; have n0_ := Aside0.mk (Kd.R_below (by (with_reducible repeat (first | apply Kd.R_alloc | apply Kd.R_drewN | apply Kd.R_drew)); exact HO_3.out) hb); have n1_ := Aside0.mk (Kd.R_below (by (with_reducible repeat (first | apply Kd.R_alloc | apply Kd.R_drewN | apply Kd.R_drew)); exact HO_4.out) hb); have n2_ := Aside0.mk (Kd.S_below (by (with_reducible repeat (first | apply Kd.S_alloc | apply Kd.S_drewN | apply Kd.S_drew)); exact HO_872001.out) hb); have n3_ := Aside0.mk (Kd.S_below (by (with_reducible repeat (first | apply Kd.S_alloc | apply Kd.S_drewN | apply Kd.S_drew)); exact HO882.out) hb); have n4_ := Aside0.mk (blk_below (g := gb871) (o := .cells #[.int .i64 x872000_3, u872001] 53 (0, 0)) (by (with_reducible repeat (first | refine blk_drewN ?_ _ | refine blk_drew ?_ | refine blk_alloc ?_ _)); exact BK871.out) hb); have n5_ := Aside0.mk (below_step (by repeat (first | (with_reducible first | exact HB.out | apply below_alloc | apply pw_below_drewN | apply below_drew1 | refine below_set ?_ GE871.out) | exact HB.out)) hb); clear HO_3; clear HO_4; clear HO_872001; clear HO882; clear BK871; clear HB; have HO_3 := n0_; have HO_4 := n1_; have HO_872001 := n2_; have HO882 := n3_; have BK871 := n4_; have HB := n5_; clear n0_ n1_ n2_ n3_ n4_ n5_
                 (try clear hb)
                 (try clear hb2)
                 (try clear hk)
                 (try clear hi)
                 obtain ⟨Ao43, co43, eo43⟩ := Kd.S_slice HO_872001.out
                 (first | subst eo43 | (injection eo43 with f1_ f2_ f3_; have f4_ := f1_.symm; have f5_ := f3_.symm; clear f1_ f2_ f3_; subst f4_; subst f5_))
                 refine hK.out _ _ ⟨(blk_cell BK871.out 0).trans rfl, (blk_cell BK871.out 1).trans rfl⟩ (fun hHeld => ?_); clear hK K; refine norm_ (a' := ?_) ?_ ?_
                 rotate_left
                 ·show Act.put _ (some 47) _ = _
                  simp only [Act.put, List.setIfInBounds_toArray, List.set_cons_zero, List.set_cons_succ, i64_w, i32_w]
                  rfl
                 refine one_ (i := 4) (N := some 50) #[t_, t_, t_, t_, t_, f_] rfl rfl (by kernel_rfl) (by decide) (fun K hK => ?_); refine goes_ Try.func89 (by kernel_rfl) rfl #[.slice Ao43 x872001_3.length co43] (by rfl) rfl rfl (by (try simp only [List.map_toArray, List.map_cons, List.map_nil]); first | done | rfl | (simp only [List.length_drop, List.length_take]; rfl)) ?_
                 with_reducible refine (impl_deltaSize.calls k3 _ _ x872001_3 t884 _ ?side1 ?side2 A26.out).mono ?_
                 (case side1 => repeat (first | exact (Kd.S_reads' HO_872001.out).2.2 | (with_reducible refine Kd.C_alloc ?_ _) | (with_reducible refine Kd.C_drewN ?_ _) | (with_reducible refine Kd.C_drew ?_)))
                 (case side2 => exact (Kd.S_reads' HO_872001.out).2.1)
                 rintro e w44 ⟨rfl, hb⟩; refine ⟨_, rfl, ?_⟩; have n0_ := Aside0.mk (Kd.R_below (by (with_reducible repeat (first | apply Kd.R_alloc | apply Kd.R_drewN | apply Kd.R_drew)); exact HO_3.out) hb); have n1_ := Aside0.mk (Kd.R_below (by (with_reducible repeat (first | apply Kd.R_alloc | apply Kd.R_drewN | apply Kd.R_drew)); exact HO_4.out) hb); have n2_ := Aside0.mk (Kd.S_below (by (with_reducible repeat (first | apply Kd.S_alloc | apply Kd.S_drewN | apply Kd.S_drew)); exact HO_872001.out) hb); have n3_ := Aside0.mk (Kd.S_below (by (with_reducible repeat (first | apply Kd.S_alloc | apply Kd.S_drewN | apply Kd.S_drew)); exact HO882.out) hb); have n4_ := Aside0.mk (blk_below (g := gb871) (o := .cells #[.int .i64 x872000_3, .slice Ao43 x872001_3.length co43] 53 (0, 0)) (by (with_reducible repeat (first | refine blk_drewN ?_ _ | refine blk_drew ?_ | refine blk_alloc ?_ _)); exact BK871.out) hb); have n5_ := Aside0.mk (below_step (by repeat (first | (with_reducible first | exact HB.out | apply below_alloc | apply pw_below_drewN | apply below_drew1 | refine below_set ?_ GE871.out) | exact HB.out)) hb); clear HO_3; clear HO_4; clear HO_872001; clear HO882; clear BK871; clear HB; have HO_3 := n0_; have HO_4 := n1_; have HO_872001 := n2_; have HO882 := n3_; have BK871 := n4_; have HB := n5_; clear n0_ n1_ n2_ n3_ n4_ n5_
                 (try clear hb)
                 (try clear hb2)
                 (try clear hk)
                 (try clear hi)
                 refine hK.out _ _ ⟨(blk_cell BK871.out 0).trans rfl, (blk_cell BK871.out 1).trans rfl⟩ (fun hHeld => ?_); clear hK K; refine norm_ (a' := ?_) ?_ ?_
                 rotate_left
                 ·show Act.put _ (some 50) _ = _
                  simp only [Act.put, List.setIfInBounds_toArray, List.set_cons_zero, List.set_cons_succ, i64_w, i32_w]
                  rfl
                 refine pure_ (i := 5) (N := some 51) (v := ?_) (a' := ?_) #[t_, t_, t_, t_, t_, t_] rfl rfl (by kernel_rfl) (fun _ _ _ h => h) (Or.inl ⟨by rfl, ?_⟩) ?_ ?_
                 rotate_left
                 ·intro w'; go_simp
                  with_reducible rfl
                 rotate_left
                 ·simp only [Act.put, List.setIfInBounds_toArray, List.set_cons_zero, List.set_cons_succ, i64_w, i32_w]
                  rfl
                 refine done_ (by kernel_rfl) ?_; (try go_wp2); go_roundg k3
                 case measure => have := HJ1.out; have := HK2.out; have := HK3.out; omega
                 case rel => exact ⟨(x8_3), (wrap64 (x32_3 + 1)), (x872000_3), (x872001_3), (.slice Ao43 x872001_3.length co43), (by first | rfl | (simp; done) | (simp [*]; done)), (by first | rfl | (simp; done) | (simp [*]; done)), H', ⟨by have := HJ1.out; have := HK2.out; have := HK3.out; omega⟩, ⟨by (with_reducible repeat (first | apply Kd.R_alloc | apply Kd.R_drewN | apply Kd.R_drew)); exact Kd.R_mono HO_3.out (fun _ hk => ⟨hk.1.1, hk.1.2⟩)⟩, ⟨by (with_reducible repeat (first | apply Kd.R_alloc | apply Kd.R_drewN | apply Kd.R_drew)); exact HO_4.out⟩, ⟨by (with_reducible repeat (first | apply Kd.S_alloc | apply Kd.S_drewN | apply Kd.S_drew)); exact Kd.S_mono HO_872001.out (fun _ hk => trivial)⟩, ⟨by (with_reducible repeat (first | refine blk_drewN ?_ _ | refine blk_drew ?_ | refine blk_alloc ?_ _)); exact BK871.out⟩, ⟨by repeat (first | (with_reducible first | exact HB.out | apply below_alloc | apply pw_below_drewN | apply below_drew1 | refine below_set ?_ GE871.out) | exact HB.out)⟩⟩
               ·rw [if_neg c23] at H; exact absurd H (by simp)
             ·rw [if_neg c20] at H; exact absurd H (by simp)
            ·rw [if_neg c19] at H; exact absurd H (by simp)
           ·rw [if_neg c18] at H; have c18b0 : decide (x32_3 < x23_2) = false := decide_eq_false c18; clear c18; by_cases c45 : x3_2.length < 4398046511104
            ·rw [if_pos c45] at H; have LMc45 := Aside0.mk c45; clear c45; obtain ⟨y872, hy872⟩ : ∃ y_ : List (S53), y_ = (x3_2 ++ [(⟨x872000_3, x872001_3⟩ : S53)]) := ⟨_, rfl⟩; (replace H : (if x4_2.length < 17592186044416 then (impl_PackOf.l0 k3 l0 y872 (x4_2 ++ [x8_3]) l0 (l0.length : Int) (wrap64 (x23_2 + 1))) else (none)) = some r := by first | (rw [hy872]; with_reducible exact H) | (have H2_ := (Option.bind_some _ _).symm.trans H; rw [hy872]; with_reducible exact H2_) | (have H2_ := (Option.bind_some _ _).symm.trans H; with_reducible exact H2_) | with_reducible exact H | (rw [hy872]; exact H) | exact H); have Ny872 := Aside0.mk hy872; clear hy872; by_cases c46 : x4_2.length < 17592186044416
             ·rw [if_pos c46] at H; have LMc46 := Aside0.mk c46; clear c46; obtain ⟨y875, hy875⟩ : ∃ y_ : List Int, y_ = (x4_2 ++ [x8_3]) := ⟨_, rfl⟩; (replace H : (impl_PackOf.l0 k3 l0 y872 y875 l0 (l0.length : Int) (wrap64 (x23_2 + 1))) = some r := by first | (rw [hy875]; with_reducible exact H) | (have H2_ := (Option.bind_some _ _).symm.trans H; rw [hy875]; with_reducible exact H2_) | (have H2_ := (Option.bind_some _ _).symm.trans H; with_reducible exact H2_) | with_reducible exact H | (rw [hy875]; exact H) | exact H); have Ny875 := Aside0.mk hy875; clear hy875; have H' := Aside0.mk H; clear H; have hcz47_0 : wr.cell? ⟨gb871, 0, none⟩ = some (.int .i64 x872000_3) := (blk_cell BK871.out 0).trans rfl; have hcz47_1 : wr.cell? ⟨gb871, 1, none⟩ = some (u872001) := (blk_cell BK871.out 1).trans rfl; have hfz47_0 := blk_frozen BK871.out 0; have hfz47_1 := blk_frozen BK871.out 1; obtain ⟨Ao49, co49, eo49⟩ := Kd.S_slice HO_872001.out; subst eo49; go_wp2_with (first | ((with_reducible refine gate_builtin (b := .append) (xs := #[.tmp 61, .tmp 63]) rfl ?_); at_builtin; refine Kd.R_append k53 (w0 := w) w.heap.size rfl (.tmp 61) (.tmp 63) 47 53 (.agg #[(.int .i64 0), (.slice none 0 0)]) 32 rfl Try.underlying47 info53 rfl (by decide) (by omega) u3 x3_2 (⟨x872000_3, x872001_3⟩ : S53) [.int .i64 x872000_3, .slice Ao49 x872001_3.length co49] (fun k_ => k_ ≠ gb871) (fun k_ => ((fun k_ => k_ ≠ gb871)) k_ ∧ some k_ ≠ (u3 : Value).ownBlock) rfl rfl ?aP (fun _ hk => hk) ?aF ?aO ?aB ?aS ?aL ?_; (case aP => exact k53_mkM _ _ _ (⟨x872000_3, x872001_3⟩ : S53) (Kd.R_mono (Kd.R_types (Kd.R_apart' ((Kd.S_R HO_872001.out)) (Kd.R_typed HO_3.out) (by decide)) BK871.out (by decide)) (fun k_ hk => ⟨hk.2, hk.1.2⟩))); (case aB => exact (by repeat (first | (with_reducible first | exact HB.out | apply below_alloc | apply pw_below_drewN | apply below_drew1 | refine below_set ?_ GE871.out) | exact HB.out))); (case aF => exact (fun k_ hk => Kd.freshB (g := gb871) (o := .cells #[.int .i64 x872000_3, .slice Ao49 x872001_3.length co49] 53 (0, 0)) (by (with_reducible repeat (first | refine blk_drewN ?_ _ | refine blk_drew ?_ | refine blk_alloc ?_ _)); exact BK871.out) k_ hk)); (case aO => exact (by (with_reducible repeat (first | apply Kd.R_alloc | apply Kd.R_drewN | apply Kd.R_drew)); exact Kd.R_mono HO_3.out (fun _ hk => hk.2))); (case aS => exact (below_size (by repeat (first | (with_reducible first | exact HB.out | apply below_alloc | apply pw_below_drewN | apply below_drew1 | refine below_set ?_ GE871.out) | exact HB.out)))); (case aL => have := LMc45.out; omega); intro v873 w48 ho hb hg hat; rw [← Ny872.out] at ho; have n0_ := Aside0.mk (Kd.R_over' (by (with_reducible repeat (first | apply Kd.R_alloc | apply Kd.R_drewN | apply Kd.R_drew)); exact HO_4.out) (Kd.R_typed (by (with_reducible repeat (first | apply Kd.R_alloc | apply Kd.R_drewN | apply Kd.R_drew)); exact HO_3.out)) (by decide) hg); have n1_ := Aside0.mk (blk_grown (g := gb871) (o := .cells #[.int .i64 x872000_3, .slice Ao49 x872001_3.length co49] 53 (0, 0)) (by (with_reducible repeat (first | refine blk_drewN ?_ _ | refine blk_drew ?_ | refine blk_alloc ?_ _)); exact BK871.out) hg (Kd.R_away HO_3.out (fun _ hk => hk.2))); have n2_ := Aside0.mk (hb); have n3_ := Aside0.mk (ho); clear HO_4; clear BK871; clear HB; clear HO_3; clear HO_872001; have HO_4 := n0_; have BK871 := n1_; have HB := n2_; have HO874 := n3_; clear n0_ n1_ n2_ n3_; clear ho hb hg hat) | ((with_reducible refine gate_builtin (b := .append) (xs := #[.tmp 65, .tmp 67]) rfl ?_); at_builtin; refine Kd.R_append (Kd.int .i64) (w0 := w) w.heap.size rfl (.tmp 65) (.tmp 67) 89 3 (.int .i64 0) 8 rfl Try.underlying89 info3 rfl (by decide) (by omega) u4 x4_2 x8_3 [.int .i64 x8_3] (fun _ => True) (fun _ => False) rfl rfl ?aP (fun _ hk => hk.elim) ?aF ?aO ?aB ?aS ?aL ?_; (case aP => exact rfl); (case aB => exact (by repeat (first | (with_reducible first | exact HB.out | apply below_alloc | apply pw_below_drewN | apply below_drew1 | refine below_set ?_ GE871.out) | exact HB.out))); (case aF => exact (fun _ _ => trivial)); (case aO => exact (by (with_reducible repeat (first | apply Kd.R_alloc | apply Kd.R_drewN | apply Kd.R_drew)); exact HO_4.out)); (case aS => exact (below_size (by repeat (first | (with_reducible first | exact HB.out | apply below_alloc | apply pw_below_drewN | apply below_drew1 | refine below_set ?_ GE871.out) | exact HB.out)))); (case aL => have := LMc46.out; omega); intro v876 w50 ho hb hg hat; rw [← Ny875.out] at ho; have n0_ := Aside0.mk (blk_grown (g := gb871) (o := .cells #[.int .i64 x872000_3, .slice Ao49 x872001_3.length co49] 53 (0, 0)) (by (with_reducible repeat (first | refine blk_drewN ?_ _ | refine blk_drew ?_ | refine blk_alloc ?_ _)); exact BK871.out) hg (Kd.R_ne HO_4.out BK871.out (by decide))); have n1_ := Aside0.mk (Kd.R_over' (by (with_reducible repeat (first | apply Kd.R_alloc | apply Kd.R_drewN | apply Kd.R_drew)); exact HO874.out) (Kd.R_typed (by (with_reducible repeat (first | apply Kd.R_alloc | apply Kd.R_drewN | apply Kd.R_drew)); exact HO_4.out)) (by decide) hg); have n2_ := Aside0.mk (hb); have n3_ := Aside0.mk (ho); clear BK871; clear HO874; clear HB; clear HO_4; have BK871 := n0_; have HO874 := n1_; have HB := n2_; have HO877 := n3_; clear n0_ n1_ n2_ n3_; clear ho hb hg hat))
              go_roundg k3
              case measure => have := HJ1.out; have := HK2.out; have := HK3.out; omega
              case rel => exact ⟨(y872), (y875), (wrap64 (x23_2 + 1)), (by first | rfl | (simp; done) | (simp [*]; done)), H', ⟨by have := HJ1.out; have := HK2.out; have := HK3.out; omega⟩, ⟨by (with_reducible repeat (first | apply Kd.R_alloc | apply Kd.R_drewN | apply Kd.R_drew)); exact Kd.R_mono HO874.out (fun _ hk => trivial)⟩, ⟨by (with_reducible repeat (first | apply Kd.R_alloc | apply Kd.R_drewN | apply Kd.R_drew)); exact HO877.out⟩, ⟨by repeat (first | (with_reducible first | exact HB.out | apply below_alloc | apply pw_below_drewN | apply below_drew1 | refine below_set ?_ GE871.out) | exact HB.out)⟩⟩
             ·rw [if_neg c46] at H; exact absurd H (by simp)
            ·rw [if_neg c45] at H; exact absurd H (by simp)
        ·rw [if_neg c12] at H; exact absurd H (by simp)
       ·rw [if_neg c11] at H; exact absurd H (by simp)
      ·rw [if_neg c10] at H; have c10b0 : decide (x23_2 < (l0.length : Int)) = false := decide_eq_false c10; clear c10; obtain rfl := Option.some.inj H; go_wp2; go_ret; exact ⟨_, by first | rfl | (simp <;> rfl) | (simp [*] <;> rfl), by (with_reducible repeat (first | apply Kd.R_alloc | apply Kd.R_drewN | apply Kd.R_drew)); exact HO_3.out, by repeat (first | (with_reducible first | exact HB.out | apply below_alloc | apply pw_below_drewN | apply below_drew1) | exact HB.out)⟩
end Go.Proofs.Ytfnhjaiioojbkaa.Q
end
section
namespace Go.Proofs.Ytfnhjaiioojbkaa.Q
open Go.RowKit Go.Proofs.YtfnhjaiioojbkaaW.PrintWords Go.Proofs.YtfnhjaiioojbkaaW.PrintLast Go.Proofs.YtfnhjaiioojbkaaW.PrintMore
attribute [local go_sem] max2_int min2_int max_two min_two max_three min_three max_four min_four   -- for this text's walks alone
set_option linter.unusedVariables false
set_option linter.unusedSimpArgs false
def laws_smDelta.l0 : Nat → List (S39) → List (S39) → Int → Option (Bool)
 | 0, _, _, _ => none
 | k + 1, x0, x1, x5 => if x5 < (x0.length : Int) then (if 0 ≤ x5 then (if x5 < (x1.length : Int) then (if ((rd_T39 x0 x5).f0) = ((rd_T39 x1 x5).f0) then (if ((rd_T39 x0 x5).f1) = ((rd_T39 x1 x5).f1) then ((laws_smTexts.f k ((rd_T39 x0 x5).f2) ((rd_T39 x1 x5).f2)).bind fun t403 => (if t403 = true then (laws_smDelta.l0 k x0 x1 (wrap64 (x5 + 1))) else (some false))) else (some false)) else (some false)) else (none)) else (none)) else (some true)
def laws_smDelta.f (k : Nat) (l0 : List (S39)) (l1 : List (S39)) : Option (Bool) := if (l0.length : Int) = (l1.length : Int) then (laws_smDelta.l0 k l0 l1 0) else (some false)
theorem laws_smDelta.mono_l : ∀ k, (∀ y0 y1 y2, LeO (laws_smDelta.l0 k y0 y1 y2) (laws_smDelta.l0 (k + 1) y0 y1 y2))
 | 0 => fun _ _ _ r h => by simp [laws_smDelta.l0] at h
 | k + 1 => by
  have ih0 := laws_smDelta.mono_l k
  ·intro y0 y1 y2
   unfold laws_smDelta.l0
   repeat' first
   | (with_reducible exact ih0 _ _ _)
   | (with_reducible exact laws_smTexts.mono _ _ _)
   | (with_reducible exact LeO.refl _)
   | (with_reducible exact LeO.none _)
   | (with_reducible refine LeO.ite ?_ ?_)
   | (with_reducible refine LeO.bind ?_ (fun _ => ?_))
   | exact ih0 _ _ _
   | exact laws_smTexts.mono _ _ _
   | exact LeO.none _
   | refine LeO.ite ?_ ?_
   | refine LeO.bind ?_ (fun _ => ?_)
theorem laws_smDelta.mono : ∀ a0 a1 k, LeO (laws_smDelta.f k a0 a1) (laws_smDelta.f (k + 1) a0 a1) := by
 intro a0 a1 k; have ih0 := laws_smDelta.mono_l k
 unfold laws_smDelta.f
 repeat' first
  | (with_reducible exact ih0 _ _ _)
  | (with_reducible exact laws_smTexts.mono _ _ _)
  | (with_reducible exact LeO.refl _)
  | (with_reducible exact LeO.none _)
  | (with_reducible refine LeO.ite ?_ ?_)
  | (with_reducible refine LeO.bind ?_ (fun _ => ?_))
  | exact ih0 _ _ _
  | exact laws_smTexts.mono _ _ _
  | exact LeO.none _
  | refine LeO.ite ?_ ?_
  | refine LeO.bind ?_ (fun _ => ?_)
set_option maxHeartbeats 2000000 in
theorem laws_smDelta.calls0 (k : Nat) (A0 : Option Addr) (c0 : Nat) (l0 : List S39) (A1 : Option Addr) (c1 : Nat) (l1 : List S39) (r : Bool) (w : World) (hr0 : Kd.C k39 w A0 l0.length l0) (hc0 : l0.length ≤ c0) (hr1 : Kd.C k39 w A1 l1.length l1) (hc1 : l1.length ≤ c1) (h : laws_smDelta.f k l0 l1 = some r) :
 Calls Try.prog 22 #[.slice A0 l0.length c0, .slice A1 l1.length c1] w fun e w' => e = .returned (.bool r) ∧ Drawn0 w w' := by
 have HR0 := Aside0.mk hr0; have HR1 := Aside0.mk hr1; have hl0 : l0.length ≤ 9223372036854775807 := hr0.2.1; clear hr0 hr1 hc0 hc1
 unfold laws_smDelta.f at h
 by_cases c3 : (l0.length : Int) = (l1.length : Int)
 ·rw [if_pos c3] at h; have H := Aside0.mk h; (have c3' : l0.length = l1.length := by omega); have C3 := Aside0.mk c3'; (have c3b : ((l0.length : Int) != (l1.length : Int)) = false := by simp [c3']); (have c3c : (l0.length == l1.length) = true := by simp [c3']); clear h c3 c3'; go_enter Try.func22, Try.ntmps22; go_wp2; clear c3b c3c; go_loopg [5] k (fun kq v5 wr => ∃ i : Nat, v5 = .int .i64 i ∧ i ≤ l0.length ∧ Aside0 (laws_smDelta.l0 kq l0 l1 i = some r) ∧ Aside0 (Drawn0 w wr))
  case atStart => exact ⟨0, rfl, Nat.zero_le _, H, ⟨Drawn0.refl _⟩⟩
  case round =>
   clear H; obtain ⟨i, rfl, hi, HA, HD⟩ := hrel
   cases gk with
   | zero => exact absurd HA.out (by simp [laws_smDelta.l0])
   | succ k1 =>
    have H := HA.out; clear HA; simp only [laws_smDelta.l0] at H; by_cases hlt : i < l0.length
    ·(have h1 : i < l1.length := by rw [← C3.out]; exact hlt); rw [if_pos (by omega), if_pos (by omega), if_pos (by omega)] at H; obtain ⟨ad0, A2, c2, rfl, x0, x1, x2, hl2, hC2⟩ := at_T39 (Kd.C_below HR0.out HD.out.below) (i : Int) (by omega) (by omega); obtain ⟨ad1, B2, d2, rfl, y0, y1, y2, hm2, hD2⟩ := at_T39 (Kd.C_below HR1.out HD.out.below) (i : Int) (by omega) (by omega); have HH := Aside0.mk H; simp only [Int.toNat_natCast] at x0 x1 x2 y0 y1 y2; have XC := Aside0.mk hC2; have YC := Aside0.mk hD2; have XL := Aside0.mk hl2; have YL := Aside0.mk hm2; clear H hC2 hD2 hl2 hm2; have b0 : decide ((i : Int) < (l0.length : Int)) = true := decide_eq_true (by omega); have b1 : decide ((i : Int) < (l1.length : Int)) = true := decide_eq_true (by omega); (have b2 : (i : Int) < (l0.length : Int) := by omega); (have b3 : (i : Int) < (l1.length : Int) := by omega); by_cases e0 : (rd_T39 l0 i).f0 = (rd_T39 l1 i).f0
     ·by_cases e1 : (rd_T39 l0 i).f1 = (rd_T39 l1 i).f1
      ·have H := HH.out; clear HH; rw [if_pos e0, if_pos e1] at H; obtain ⟨t, ht, H⟩ := Option.bind_eq_some_iff.mp H; have T := Aside0.mk ht; have HH := Aside0.mk H; (have e0b : ((rd_T39 l0 i).f0 != (rd_T39 l1 i).f0) = false := by simp [e0]); (have e1b : ((rd_T39 l0 i).f1 != (rd_T39 l1 i).f1) = false := by simp [e1]); clear ht H e0 e1; go_wp2; go_quiet ((go_at_call 26; exact quietD (fun W hW => laws_smTexts.calls k1 _ _ _ _ _ _ t W (Kd.C_below XC.out hW.below) XL.out (Kd.C_below YC.out hW.below) YL.out T.out))); have HD2 := Aside0.mk (HD.out.step nq); clear HD
       cases t with
       | true =>
        have H := HH.out; rw [if_pos rfl, show wrap64 ((i : Int) + 1) = ((i + 1 : Nat) : Int) by unfold wrap64; omega] at H; have HA := Aside0.mk H; clear H HH; go_wp2; go_roundg k1
        case measure => omega
        case rel => exact ⟨i + 1, by go_num, by omega, HA, HD2⟩
       | false =>
        have H := HH.out; rw [if_neg (by decide)] at H; obtain rfl := Option.some.inj H; go_wp2; go_ret; exact ⟨rfl, HD2.out⟩
      ·have H := HH.out; clear HH; rw [if_pos e0, if_neg e1] at H; obtain rfl := Option.some.inj H; (have e0b : ((rd_T39 l0 i).f0 != (rd_T39 l1 i).f0) = false := by simp [e0]); (have e1b : ((rd_T39 l0 i).f1 != (rd_T39 l1 i).f1) = true := by simp [e1]); clear H e0 e1; go_wp2; go_quiet (fail); have HD2 := Aside0.mk (HD.out.step nq); clear HD; go_wp2; go_ret; exact ⟨rfl, HD2.out⟩
     ·have H := HH.out; clear HH; rw [if_neg e0] at H; obtain rfl := Option.some.inj H; (have e0b : ((rd_T39 l0 i).f0 != (rd_T39 l1 i).f0) = true := by simp [e0]); clear H e0; go_wp2; go_quiet (fail); have HD2 := Aside0.mk (HD.out.step nq); clear HD; go_wp2; go_ret; exact ⟨rfl, HD2.out⟩
    ·rw [if_neg (by omega)] at H; obtain rfl := Option.some.inj H; (have b0 : ¬ (i : Int) < (l0.length : Int) := by omega); clear H; go_wp2; go_ret; exact ⟨rfl, HD.out⟩
 ·rw [if_neg c3] at h; obtain rfl := Option.some.inj h; (have c3b : ((l0.length : Int) != (l1.length : Int)) = true := by simp; omega); (have c3c : (l0.length == l1.length) = false := by simp; omega); clear h; go_enter Try.func22, Try.ntmps22; go_wp2; go_ret; exact ⟨rfl, Drawn0.refl _⟩
theorem laws_smDelta.calls (k : Nat) (A0 : Option Addr) (c0 : Nat) (l0 : List S39) (A1 : Option Addr) (c1 : Nat) (l1 : List S39) (r : Bool) (w : World) (hr0 : Kd.C k39 w A0 l0.length l0) (hc0 : l0.length ≤ c0) (hr1 : Kd.C k39 w A1 l1.length l1) (hc1 : l1.length ≤ c1) (h : laws_smDelta.f k l0 l1 = some r) :
 Calls Try.prog 22 #[.slice A0 l0.length c0, .slice A1 l1.length c1] w fun e w' => e = .returned (.bool r) ∧ Below w.heap.size w w' :=
 (laws_smDelta.calls0 k A0 c0 l0 A1 c1 l1 r w hr0 hc0 hr1 hc1 h).mono fun e w' h => ⟨h.1, h.2.below⟩
end Go.Proofs.Ytfnhjaiioojbkaa.Q
end
section
namespace Go.Proofs.Ytfnhjaiioojbkaa.Q
open Go.RowKit Go.Proofs.YtfnhjaiioojbkaaW.PrintWords Go.Proofs.YtfnhjaiioojbkaaW.PrintLast Go.Proofs.YtfnhjaiioojbkaaW.PrintMore
attribute [local go_sem] max2_int min2_int max_two min_two max_three min_three max_four min_four   -- for this text's walks alone
set_option linter.unusedVariables false
set_option linter.unusedSimpArgs false
def laws_smPack.l0 : Nat → List (S53) → List (S53) → Int → Option (Bool)
 | 0, _, _, _ => none
 | k + 1, x0, x1, x5 => if x5 < (x0.length : Int) then (if 0 ≤ x5 then (if x5 < (x1.length : Int) then (if ((rd_T53 x0 x5).f0) = ((rd_T53 x1 x5).f0) then ((laws_smDelta.f k ((rd_T53 x0 x5).f1) ((rd_T53 x1 x5).f1)).bind fun t890 => (if t890 = true then (laws_smPack.l0 k x0 x1 (wrap64 (x5 + 1))) else (some false))) else (some false)) else (none)) else (none)) else (some true)
def laws_smPack.f (k : Nat) (l0 : List (S53)) (l1 : List (S53)) : Option (Bool) := if (l0.length : Int) = (l1.length : Int) then (laws_smPack.l0 k l0 l1 0) else (some false)
theorem laws_smPack.mono_l : ∀ k, (∀ y0 y1 y2, LeO (laws_smPack.l0 k y0 y1 y2) (laws_smPack.l0 (k + 1) y0 y1 y2))
 | 0 => fun _ _ _ r h => by simp [laws_smPack.l0] at h
 | k + 1 => by
  have ih0 := laws_smPack.mono_l k
  ·intro y0 y1 y2
   unfold laws_smPack.l0
   repeat' first
   | (with_reducible exact ih0 _ _ _)
   | (with_reducible exact laws_smDelta.mono _ _ _)
   | (with_reducible exact LeO.refl _)
   | (with_reducible exact LeO.none _)
   | (with_reducible refine LeO.ite ?_ ?_)
   | (with_reducible refine LeO.bind ?_ (fun _ => ?_))
   | exact ih0 _ _ _
   | exact laws_smDelta.mono _ _ _
   | exact LeO.none _
   | refine LeO.ite ?_ ?_
   | refine LeO.bind ?_ (fun _ => ?_)
theorem laws_smPack.mono : ∀ a0 a1 k, LeO (laws_smPack.f k a0 a1) (laws_smPack.f (k + 1) a0 a1) := by
 intro a0 a1 k; have ih0 := laws_smPack.mono_l k
 unfold laws_smPack.f
 repeat' first
  | (with_reducible exact ih0 _ _ _)
  | (with_reducible exact laws_smDelta.mono _ _ _)
  | (with_reducible exact LeO.refl _)
  | (with_reducible exact LeO.none _)
  | (with_reducible refine LeO.ite ?_ ?_)
  | (with_reducible refine LeO.bind ?_ (fun _ => ?_))
  | exact ih0 _ _ _
  | exact laws_smDelta.mono _ _ _
  | exact LeO.none _
  | refine LeO.ite ?_ ?_
  | refine LeO.bind ?_ (fun _ => ?_)
set_option maxHeartbeats 2000000 in
theorem laws_smPack.calls0 (k : Nat) (A0 : Option Addr) (c0 : Nat) (l0 : List S53) (A1 : Option Addr) (c1 : Nat) (l1 : List S53) (r : Bool) (w : World) (hr0 : Kd.C k53 w A0 l0.length l0) (hc0 : l0.length ≤ c0) (hr1 : Kd.C k53 w A1 l1.length l1) (hc1 : l1.length ≤ c1) (h : laws_smPack.f k l0 l1 = some r) :
 Calls Try.prog 48 #[.slice A0 l0.length c0, .slice A1 l1.length c1] w fun e w' => e = .returned (.bool r) ∧ Drawn0 w w' := by
 have HR0 := Aside0.mk hr0; have HR1 := Aside0.mk hr1; have hl0 : l0.length ≤ 9223372036854775807 := hr0.2.1; clear hr0 hr1 hc0 hc1
 unfold laws_smPack.f at h
 by_cases c3 : (l0.length : Int) = (l1.length : Int)
 ·rw [if_pos c3] at h; have H := Aside0.mk h; (have c3' : l0.length = l1.length := by omega); have C3 := Aside0.mk c3'; (have c3b : ((l0.length : Int) != (l1.length : Int)) = false := by simp [c3']); (have c3c : (l0.length == l1.length) = true := by simp [c3']); clear h c3 c3'; go_enter Try.func48, Try.ntmps48; go_wp2; clear c3b c3c; go_loopg [5] k (fun kq v5 wr => ∃ i : Nat, v5 = .int .i64 i ∧ i ≤ l0.length ∧ Aside0 (laws_smPack.l0 kq l0 l1 i = some r) ∧ Aside0 (Drawn0 w wr))
  case atStart => exact ⟨0, rfl, Nat.zero_le _, H, ⟨Drawn0.refl _⟩⟩
  case round =>
   clear H; obtain ⟨i, rfl, hi, HA, HD⟩ := hrel
   cases gk with
   | zero => exact absurd HA.out (by simp [laws_smPack.l0])
   | succ k1 =>
    have H := HA.out; clear HA; simp only [laws_smPack.l0] at H; by_cases hlt : i < l0.length
    ·(have h1 : i < l1.length := by rw [← C3.out]; exact hlt); rw [if_pos (by omega), if_pos (by omega), if_pos (by omega)] at H; obtain ⟨ad0, A2, c2, rfl, x0, x1, hl2, hC2⟩ := at_T53 (Kd.C_below HR0.out HD.out.below) (i : Int) (by omega) (by omega); obtain ⟨ad1, B2, d2, rfl, y0, y1, hm2, hD2⟩ := at_T53 (Kd.C_below HR1.out HD.out.below) (i : Int) (by omega) (by omega); have HH := Aside0.mk H; simp only [Int.toNat_natCast] at x0 x1 y0 y1; have XC := Aside0.mk hC2; have YC := Aside0.mk hD2; have XL := Aside0.mk hl2; have YL := Aside0.mk hm2; clear H hC2 hD2 hl2 hm2; have b0 : decide ((i : Int) < (l0.length : Int)) = true := decide_eq_true (by omega); have b1 : decide ((i : Int) < (l1.length : Int)) = true := decide_eq_true (by omega); (have b2 : (i : Int) < (l0.length : Int) := by omega); (have b3 : (i : Int) < (l1.length : Int) := by omega); by_cases e0 : (rd_T53 l0 i).f0 = (rd_T53 l1 i).f0
     ·have H := HH.out; clear HH; rw [if_pos e0] at H; obtain ⟨t, ht, H⟩ := Option.bind_eq_some_iff.mp H; have T := Aside0.mk ht; have HH := Aside0.mk H; (have e0b : ((rd_T53 l0 i).f0 != (rd_T53 l1 i).f0) = false := by simp [e0]); clear ht H e0; go_wp2; go_quiet ((go_at_call 22; exact quietD (fun W hW => laws_smDelta.calls0 k1 _ _ _ _ _ _ t W (Kd.C_below XC.out hW.below) XL.out (Kd.C_below YC.out hW.below) YL.out T.out))); have HD2 := Aside0.mk (HD.out.step nq); clear HD
      cases t with
      | true =>
       have H := HH.out; rw [if_pos rfl, show wrap64 ((i : Int) + 1) = ((i + 1 : Nat) : Int) by unfold wrap64; omega] at H; have HA := Aside0.mk H; clear H HH; go_wp2; go_roundg k1
       case measure => omega
       case rel => exact ⟨i + 1, by go_num, by omega, HA, HD2⟩
      | false =>
       have H := HH.out; rw [if_neg (by decide)] at H; obtain rfl := Option.some.inj H; go_wp2; go_ret; exact ⟨rfl, HD2.out⟩
     ·have H := HH.out; clear HH; rw [if_neg e0] at H; obtain rfl := Option.some.inj H; (have e0b : ((rd_T53 l0 i).f0 != (rd_T53 l1 i).f0) = true := by simp [e0]); clear H e0; go_wp2; go_quiet (fail); have HD2 := Aside0.mk (HD.out.step nq); clear HD; go_wp2; go_ret; exact ⟨rfl, HD2.out⟩
    ·rw [if_neg (by omega)] at H; obtain rfl := Option.some.inj H; (have b0 : ¬ (i : Int) < (l0.length : Int) := by omega); clear H; go_wp2; go_ret; exact ⟨rfl, HD.out⟩
 ·rw [if_neg c3] at h; obtain rfl := Option.some.inj h; (have c3b : ((l0.length : Int) != (l1.length : Int)) = true := by simp; omega); (have c3c : (l0.length == l1.length) = false := by simp; omega); clear h; go_enter Try.func48, Try.ntmps48; go_wp2; go_ret; exact ⟨rfl, Drawn0.refl _⟩
theorem laws_smPack.calls (k : Nat) (A0 : Option Addr) (c0 : Nat) (l0 : List S53) (A1 : Option Addr) (c1 : Nat) (l1 : List S53) (r : Bool) (w : World) (hr0 : Kd.C k53 w A0 l0.length l0) (hc0 : l0.length ≤ c0) (hr1 : Kd.C k53 w A1 l1.length l1) (hc1 : l1.length ≤ c1) (h : laws_smPack.f k l0 l1 = some r) :
 Calls Try.prog 48 #[.slice A0 l0.length c0, .slice A1 l1.length c1] w fun e w' => e = .returned (.bool r) ∧ Below w.heap.size w w' :=
 (laws_smPack.calls0 k A0 c0 l0 A1 c1 l1 r w hr0 hc0 hr1 hc1 h).mono fun e w' h => ⟨h.1, h.2.below⟩
end Go.Proofs.Ytfnhjaiioojbkaa.Q
end
