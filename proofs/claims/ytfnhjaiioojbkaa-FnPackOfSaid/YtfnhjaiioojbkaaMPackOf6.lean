/- FnPackOf: for every argument the law returns true, and its arguments read behind the call as they read before. No conditions. -/
import Derived.SizedLaws
import Derived.ChangeSlices
import Derived.Test.YtfnhjaiioojbkaaRows
import Derived.WalkKit
import Derived.ProofKit
import Derived.OpenShut
import Derived.ShutString
import Derived.ChangeOld
import Derived.Below
import Derived.Test.YtfnhjaiioojbkaaMPackOf0
import Derived.Test.YtfnhjaiioojbkaaMPackOf1
import Derived.Test.YtfnhjaiioojbkaaMPackOf2
import Derived.Test.YtfnhjaiioojbkaaMPackOf3
import Derived.Test.YtfnhjaiioojbkaaMPackOf4
import Derived.Test.YtfnhjaiioojbkaaMPackOf5
set_option linter.unusedVariables false
set_option linter.unusedSimpArgs false
section
namespace Go.Proofs.Ytfnhjaiioojbkaa.Q
open Go.RowKit Go.Proofs.YtfnhjaiioojbkaaW.PrintWords Go.Proofs.YtfnhjaiioojbkaaW.PrintLast Go.Proofs.YtfnhjaiioojbkaaW.PrintMore
attribute [local go_sem] max2_int min2_int max_two min_two max_three min_three max_four min_four   -- for this text's walks alone
set_option linter.unusedVariables false
set_option linter.unusedSimpArgs false
def spec_l30Two.f (k : Nat) (l0 : List Int) : Option (List ByteArray × List ByteArray) := (spec_l30Open.f l0).bind fun bt305 => ((spec_l30AnyText.f k bt305.1 bt305.2).bind fun bt308 => ((spec_l30Rd_pick.f k bt305.1 bt308.2 4).bind fun bt312 => (if bt312.1 = 0 then ((spec_l30AnyText.f k bt305.1 bt312.2).bind fun bt314 => (some (bt308.1, bt314.1))) else ((spec_l30Turn.f k bt305.1 bt312.2 bt308.1).bind fun bt318 => (some (bt308.1, bt318.1))))))
theorem spec_l30Two.mono : ∀ a0 k, LeO (spec_l30Two.f k a0) (spec_l30Two.f (k + 1) a0) := by
 intro a0 k
 unfold spec_l30Two.f
 repeat' first
  | (with_reducible exact spec_l30AnyText.mono _ _ _)
  | (with_reducible exact spec_l30Rd_pick.mono _ _ _ _)
  | (with_reducible exact spec_l30Turn.mono _ _ _ _)
  | (with_reducible exact LeO.refl _)
  | (with_reducible exact LeO.none _)
  | (with_reducible refine LeO.ite ?_ ?_)
  | (with_reducible refine LeO.bind ?_ (fun _ => ?_))
  | exact spec_l30AnyText.mono _ _ _
  | exact spec_l30Rd_pick.mono _ _ _ _
  | exact spec_l30Turn.mono _ _ _ _
  | exact LeO.none _
  | refine LeO.ite ?_ ?_
  | refine LeO.bind ?_ (fun _ => ?_)
set_option maxHeartbeats 8000000 in
set_option maxRecDepth 100000 in
theorem spec_l30Two.calls (k : Nat) (A0 : Option Addr) (c0 : Nat) (l0 : List Int) (r1 : List ByteArray) (r2 : List ByteArray) (w : World) (hr0 : Kd.C (Kd.int .u8) w A0 l0.length l0) (hc0 : l0.length ≤ c0) (h : spec_l30Two.f k l0 = some (r1, r2)) :
 Calls Try.prog 69 #[.slice A0 l0.length c0] w fun e w' => ∃ v0_ v1_ : Value, e = .returned (.tuple #[v0_, v1_]) ∧ Kd.R Kd.string 9 w' w.heap.size (fun k_ => some k_ ≠ (v1_ : Value).ownBlock) v0_ r1 ∧ Kd.R Kd.string 9 w' w.heap.size (fun k_ => some k_ ≠ (v0_ : Value).ownBlock) v1_ r2 ∧ Below w.heap.size w w' := by
 have HR0 := Aside0.mk hr0; have HC0 := Aside0.mk hc0; clear hr0 hc0; have HB := Aside0.mk (Below.refl w.heap.size w); have H : ((spec_l30Open.f l0).bind fun bt305 => ((spec_l30AnyText.f k bt305.1 bt305.2).bind fun bt308 => ((spec_l30Rd_pick.f k bt305.1 bt308.2 4).bind fun bt312 => (if bt312.1 = 0 then ((spec_l30AnyText.f k bt305.1 bt312.2).bind fun bt314 => (some (bt308.1, bt314.1))) else ((spec_l30Turn.f k bt305.1 bt312.2 bt308.1).bind fun bt318 => (some (bt308.1, bt318.1))))))) = some (r1, r2) := h; clear h; replace H := Option.bind_eq_some_iff.mp H; obtain ⟨⟨t305, t306⟩, A20, H⟩ := H; replace H : ((spec_l30AnyText.f k t305 t306).bind fun bt308 => ((spec_l30Rd_pick.f k t305 bt308.2 4).bind fun bt312 => (if bt312.1 = 0 then ((spec_l30AnyText.f k t305 bt312.2).bind fun bt314 => (some (bt308.1, bt314.1))) else ((spec_l30Turn.f k t305 bt312.2 bt308.1).bind fun bt318 => (some (bt308.1, bt318.1)))))) = some (r1, r2) := H; have A2 := Aside0.mk A20; clear A20; replace H := Option.bind_eq_some_iff.mp H; obtain ⟨⟨t308, t311⟩, A30, H⟩ := H; replace H : ((spec_l30Rd_pick.f k t305 t311 4).bind fun bt312 => (if bt312.1 = 0 then ((spec_l30AnyText.f k t305 bt312.2).bind fun bt314 => (some (t308, bt314.1))) else ((spec_l30Turn.f k t305 bt312.2 t308).bind fun bt318 => (some (t308, bt318.1))))) = some (r1, r2) := H; have A3 := Aside0.mk A30; clear A30; replace H := Option.bind_eq_some_iff.mp H; obtain ⟨⟨t312, t313⟩, A40, H⟩ := H; replace H : (if t312 = 0 then ((spec_l30AnyText.f k t305 t313).bind fun bt314 => (some (t308, bt314.1))) else ((spec_l30Turn.f k t305 t313 t308).bind fun bt318 => (some (t308, bt318.1)))) = some (r1, r2) := H; have A4 := Aside0.mk A40; clear A40; by_cases c5 : t312 = 0
 ·rw [if_pos c5] at H; have c5b0 : (t312 == 0) = true := beq_iff_eq.mpr c5; have c5b1 : (t312 != 0) = false := bne_eq_false_iff_eq.mpr c5; clear c5; replace H := Option.bind_eq_some_iff.mp H; obtain ⟨⟨t314, t317⟩, A60, H⟩ := H; replace H : (some (t308, t314)) = some (r1, r2) := H; have A6 := Aside0.mk A60; clear A60; simp only [Option.some.injEq, Prod.mk.injEq] at H; obtain ⟨rfl, rfl⟩ := H; go_enter Try.func69, Try.ntmps69; go_wp2_with (first | ((with_reducible refine gate_callee (f := 78) rfl ?_); refine goesL_ (some 7) rfl rfl Try.func78 (by kernel_rfl) rfl #[.slice A0 l0.length c0] rfl (by (try simp only [List.map_toArray, List.map_cons, List.map_nil]); first | done | rfl | (simp only [List.length_drop, List.length_take]; rfl)) ?_; (with_reducible refine (spec_l30Open.calls _ _ l0 t305 t306 w _ ?side1 ?side2 ?side3 A2.out).mono ?_); (case side1 => repeat (first | (with_reducible first | exact HB.out | apply below_alloc | apply pw_below_drewN | apply below_drew1) | exact HB.out)); (case side2 => exact HR0.out); (case side3 => exact HC0.out); rintro e w7 ⟨g307, rfl, hi, hb, hb2⟩; refine ⟨_, rfl, ?_⟩; have n0_ := Aside0.mk (hb); have n1_ := Aside0.mk (hi); clear HB; have HB := n0_; have HI307 := n1_; clear n0_ n1_; (try clear hb); (try clear hb2); (try clear hk); (try clear hi)) | ((with_reducible refine gate_callee (f := 79) rfl ?_); refine goesL_ (some 9) rfl rfl Try.func79 (by kernel_rfl) rfl #[.pointer (some ⟨g307, 0, none⟩)] rfl (by (try simp only [List.map_toArray, List.map_cons, List.map_nil]); first | done | rfl | (simp only [List.length_drop, List.length_take]; rfl)) ?_; (with_reducible refine (spec_l30AnyText.calls k g307 t305 t306 t308 t311 w _ ?side1 ?side2 A3.out).mono ?_); (case side1 => repeat (first | (with_reducible first | exact HI307.out | apply IsS106.alloc | apply IsS106.drewN | apply IsS106.drew | apply IsS106.set_1) | exact HI307.out)); (case side2 => repeat (first | (with_reducible first | exact HB.out | apply below_alloc | apply pw_below_drewN | apply below_drew1 | refine below_set ?_ (IsS106.ge HI307.out)) | exact HB.out)); rintro e w8 ⟨v309, rfl, ho0, hi, hb, hk⟩; refine ⟨_, rfl, ?_⟩; have n0_ := Aside0.mk (Kd.R_lower ho0 (below_size (by repeat (first | (with_reducible first | exact HB.out | apply below_alloc | apply pw_below_drewN | apply below_drew1 | refine below_set ?_ (IsS106.ge HI307.out)) | exact HB.out)))); have n1_ := Aside0.mk (hb); have n2_ := Aside0.mk (hi); clear HB; clear HI307; have HO310 := n0_; have HB := n1_; have HI307 := n2_; clear n0_ n1_ n2_; (try clear hb); (try clear hb2); (try clear hk); (try clear hi); (try clear ho0)) | ((with_reducible refine gate_callee (f := 81) rfl ?_); refine goesL_ (some 11) rfl rfl Try.func81 (by kernel_rfl) rfl #[.pointer (some ⟨g307, 0, none⟩), .int .i64 4] rfl (by (try simp only [List.map_toArray, List.map_cons, List.map_nil]); first | done | rfl | (simp only [List.length_drop, List.length_take]; rfl)) ?_; (with_reducible refine (spec_l30Rd_pick.calls k g307 t305 t311 4 t312 t313 w _ ?side1 ?side2 A4.out).mono ?_); (case side1 => repeat (first | (with_reducible first | exact HI307.out | apply IsS106.alloc | apply IsS106.drewN | apply IsS106.drew | apply IsS106.set_1) | exact HI307.out)); (case side2 => repeat (first | (with_reducible first | exact HB.out | apply below_alloc | apply pw_below_drewN | apply below_drew1 | refine below_set ?_ (IsS106.ge HI307.out)) | exact HB.out)); rintro e w9 ⟨rfl, hi, hb, hk⟩; refine ⟨_, rfl, ?_⟩; have n0_ := Aside0.mk (Kd.R_mono (Kd.R_keep (IsS106.apart (show IsS106 w _ g307 t305 t311 from by repeat (first | (with_reducible first | exact HI307.out | apply IsS106.alloc | apply IsS106.drewN | apply IsS106.drew | apply IsS106.set_1) | exact HI307.out)) (by (with_reducible repeat (first | apply Kd.R_alloc | apply Kd.R_drewN | apply Kd.R_drew)); exact HO310.out) (by decide)) hk (fun _ h => h.2)) (fun _ h => h.1)); have n1_ := Aside0.mk (hb); have n2_ := Aside0.mk (hi); clear HO310; clear HB; clear HI307; have HO310 := n0_; have HB := n1_; have HI307 := n2_; clear n0_ n1_ n2_; (try clear hb); (try clear hb2); (try clear hk); (try clear hi)) | ((with_reducible refine gate_callee (f := 79) rfl ?_); refine goesL_ (some 15) rfl rfl Try.func79 (by kernel_rfl) rfl #[.pointer (some ⟨g307, 0, none⟩)] rfl (by (try simp only [List.map_toArray, List.map_cons, List.map_nil]); first | done | rfl | (simp only [List.length_drop, List.length_take]; rfl)) ?_; (with_reducible refine (spec_l30AnyText.calls k g307 t305 t313 t314 t317 w _ ?side1 ?side2 A6.out).mono ?_); (case side1 => repeat (first | (with_reducible first | exact HI307.out | apply IsS106.alloc | apply IsS106.drewN | apply IsS106.drew | apply IsS106.set_1) | exact HI307.out)); (case side2 => repeat (first | (with_reducible first | exact HB.out | apply below_alloc | apply pw_below_drewN | apply below_drew1 | refine below_set ?_ (IsS106.ge HI307.out)) | exact HB.out)); rintro e w10 ⟨v315, rfl, ho0, hi, hb, hk⟩; refine ⟨_, rfl, ?_⟩; have n0_ := Aside0.mk (Kd.R_mono (Kd.R_told (Kd.R_oldK (IsS106.apart (show IsS106 w _ g307 t305 t313 from by repeat (first | (with_reducible first | exact HI307.out | apply IsS106.alloc | apply IsS106.drewN | apply IsS106.drew | apply IsS106.set_1) | exact HI307.out)) (by (with_reducible repeat (first | apply Kd.R_alloc | apply Kd.R_drewN | apply Kd.R_drew)); exact HO310.out) (by decide)) hk) (Kd.R_base ho0)) (fun _ h_ => h_.1)); have n1_ := Aside0.mk (Kd.R_lower (Kd.R_new' ho0 (Kd.R_lt (by (with_reducible repeat (first | apply Kd.R_alloc | apply Kd.R_drewN | apply Kd.R_drew)); exact HO310.out))) (below_size (by repeat (first | (with_reducible first | exact HB.out | apply below_alloc | apply pw_below_drewN | apply below_drew1 | refine below_set ?_ (IsS106.ge HI307.out)) | exact HB.out)))); have n2_ := Aside0.mk (hb); have n3_ := Aside0.mk (hi); clear HO310; clear HB; clear HI307; have HO310 := n0_; have HO316 := n1_; have HB := n2_; have HI307 := n3_; clear n0_ n1_ n2_ n3_; (try clear hb); (try clear hb2); (try clear hk); (try clear hi); (try clear ho0)))
  go_ret2; exact ⟨_, _, by first | rfl | (simp <;> rfl) | (simp [*] <;> rfl), by (with_reducible repeat (first | apply Kd.R_alloc | apply Kd.R_drewN | apply Kd.R_drew)); exact Kd.R_mono HO310.out (fun _ hk => hk.2), by (with_reducible repeat (first | apply Kd.R_alloc | apply Kd.R_drewN | apply Kd.R_drew)); exact Kd.R_mono HO316.out (fun _ hk => hk.2), by repeat (first | (with_reducible first | exact HB.out | apply below_alloc | apply pw_below_drewN | apply below_drew1 | refine below_set ?_ (IsS106.ge HI307.out)) | exact HB.out)⟩
 ·rw [if_neg c5] at H; have c5b0 : (t312 == 0) = false := beq_eq_false_iff_ne.mpr c5; have c5b1 : (t312 != 0) = true := bne_iff_ne.mpr c5; replace H := Option.bind_eq_some_iff.mp H; obtain ⟨⟨t318, t321⟩, A110, H⟩ := H; replace H : (some (t308, t318)) = some (r1, r2) := H; have A11 := Aside0.mk A110; clear A110; simp only [Option.some.injEq, Prod.mk.injEq] at H; obtain ⟨rfl, rfl⟩ := H; go_enter Try.func69, Try.ntmps69; go_wp2_with (first | ((with_reducible refine gate_callee (f := 78) rfl ?_); refine goesL_ (some 7) rfl rfl Try.func78 (by kernel_rfl) rfl #[.slice A0 l0.length c0] rfl (by (try simp only [List.map_toArray, List.map_cons, List.map_nil]); first | done | rfl | (simp only [List.length_drop, List.length_take]; rfl)) ?_; (with_reducible refine (spec_l30Open.calls _ _ l0 t305 t306 w _ ?side1 ?side2 ?side3 A2.out).mono ?_); (case side1 => repeat (first | (with_reducible first | exact HB.out | apply below_alloc | apply pw_below_drewN | apply below_drew1) | exact HB.out)); (case side2 => exact HR0.out); (case side3 => exact HC0.out); rintro e w12 ⟨g307, rfl, hi, hb, hb2⟩; refine ⟨_, rfl, ?_⟩; have n0_ := Aside0.mk (hb); have n1_ := Aside0.mk (hi); clear HB; have HB := n0_; have HI307 := n1_; clear n0_ n1_; (try clear hb); (try clear hb2); (try clear hk); (try clear hi)) | ((with_reducible refine gate_callee (f := 79) rfl ?_); refine goesL_ (some 9) rfl rfl Try.func79 (by kernel_rfl) rfl #[.pointer (some ⟨g307, 0, none⟩)] rfl (by (try simp only [List.map_toArray, List.map_cons, List.map_nil]); first | done | rfl | (simp only [List.length_drop, List.length_take]; rfl)) ?_; (with_reducible refine (spec_l30AnyText.calls k g307 t305 t306 t308 t311 w _ ?side1 ?side2 A3.out).mono ?_); (case side1 => repeat (first | (with_reducible first | exact HI307.out | apply IsS106.alloc | apply IsS106.drewN | apply IsS106.drew | apply IsS106.set_1) | exact HI307.out)); (case side2 => repeat (first | (with_reducible first | exact HB.out | apply below_alloc | apply pw_below_drewN | apply below_drew1 | refine below_set ?_ (IsS106.ge HI307.out)) | exact HB.out)); rintro e w13 ⟨v309, rfl, ho0, hi, hb, hk⟩; refine ⟨_, rfl, ?_⟩; have n0_ := Aside0.mk (Kd.R_lower ho0 (below_size (by repeat (first | (with_reducible first | exact HB.out | apply below_alloc | apply pw_below_drewN | apply below_drew1 | refine below_set ?_ (IsS106.ge HI307.out)) | exact HB.out)))); have n1_ := Aside0.mk (hb); have n2_ := Aside0.mk (hi); clear HB; clear HI307; have HO310 := n0_; have HB := n1_; have HI307 := n2_; clear n0_ n1_ n2_; (try clear hb); (try clear hb2); (try clear hk); (try clear hi); (try clear ho0)) | ((with_reducible refine gate_callee (f := 81) rfl ?_); refine goesL_ (some 11) rfl rfl Try.func81 (by kernel_rfl) rfl #[.pointer (some ⟨g307, 0, none⟩), .int .i64 4] rfl (by (try simp only [List.map_toArray, List.map_cons, List.map_nil]); first | done | rfl | (simp only [List.length_drop, List.length_take]; rfl)) ?_; (with_reducible refine (spec_l30Rd_pick.calls k g307 t305 t311 4 t312 t313 w _ ?side1 ?side2 A4.out).mono ?_); (case side1 => repeat (first | (with_reducible first | exact HI307.out | apply IsS106.alloc | apply IsS106.drewN | apply IsS106.drew | apply IsS106.set_1) | exact HI307.out)); (case side2 => repeat (first | (with_reducible first | exact HB.out | apply below_alloc | apply pw_below_drewN | apply below_drew1 | refine below_set ?_ (IsS106.ge HI307.out)) | exact HB.out)); rintro e w14 ⟨rfl, hi, hb, hk⟩; refine ⟨_, rfl, ?_⟩; have n0_ := Aside0.mk (Kd.R_mono (Kd.R_keep (IsS106.apart (show IsS106 w _ g307 t305 t311 from by repeat (first | (with_reducible first | exact HI307.out | apply IsS106.alloc | apply IsS106.drewN | apply IsS106.drew | apply IsS106.set_1) | exact HI307.out)) (by (with_reducible repeat (first | apply Kd.R_alloc | apply Kd.R_drewN | apply Kd.R_drew)); exact HO310.out) (by decide)) hk (fun _ h => h.2)) (fun _ h => h.1)); have n1_ := Aside0.mk (hb); have n2_ := Aside0.mk (hi); clear HO310; clear HB; clear HI307; have HO310 := n0_; have HB := n1_; have HI307 := n2_; clear n0_ n1_ n2_; (try clear hb); (try clear hb2); (try clear hk); (try clear hi); obtain ⟨Ao15, co15, eo15⟩ := Kd.R_slice HO310.out; subst eo15) | ((with_reducible refine gate_callee (f := 82) rfl ?_); refine goesL_ (some 19) rfl rfl Try.func82 (by kernel_rfl) rfl #[.pointer (some ⟨g307, 0, none⟩), .slice Ao15 t308.length co15] rfl (by (try simp only [List.map_toArray, List.map_cons, List.map_nil]); first | done | rfl | (simp only [List.length_drop, List.length_take]; rfl)) ?_; (with_reducible refine (spec_l30Turn.calls k g307 t305 t313 _ _ t308 t318 t321 w _ ?side1 ?side2 ?side3 ?side4 ?side5 A11.out).mono ?_); (case side1 => repeat (first | (with_reducible first | exact HI307.out | apply IsS106.alloc | apply IsS106.drewN | apply IsS106.drew | apply IsS106.set_1) | exact HI307.out)); (case side2 => repeat (first | (with_reducible first | exact HB.out | apply below_alloc | apply pw_below_drewN | apply below_drew1 | refine below_set ?_ (IsS106.ge HI307.out)) | exact HB.out)); (case side3 => repeat (first | exact (Kd.R_reads' HO310.out).2.2 | (with_reducible refine Kd.C_alloc ?_ _) | (with_reducible refine Kd.C_drewN ?_ _) | (with_reducible refine Kd.C_drew ?_))); (case side4 => exact (Kd.R_reads' HO310.out).2.1); (case side5 => exact far_slice (IsS106.own_ne HI307.out HO310.out (by decide))); rintro e w16 ⟨v319, rfl, ho0, hi, hb, hk⟩; refine ⟨_, rfl, ?_⟩; have n0_ := Aside0.mk (Kd.R_mono (Kd.R_told (Kd.R_oldK (IsS106.apart (show IsS106 w _ g307 t305 t313 from by repeat (first | (with_reducible first | exact HI307.out | apply IsS106.alloc | apply IsS106.drewN | apply IsS106.drew | apply IsS106.set_1) | exact HI307.out)) (by (with_reducible repeat (first | apply Kd.R_alloc | apply Kd.R_drewN | apply Kd.R_drew)); exact HO310.out) (by decide)) hk) (Kd.R_base ho0)) (fun _ h_ => h_.1)); have n1_ := Aside0.mk (Kd.R_lower (Kd.R_new' ho0 (Kd.R_lt (by (with_reducible repeat (first | apply Kd.R_alloc | apply Kd.R_drewN | apply Kd.R_drew)); exact HO310.out))) (below_size (by repeat (first | (with_reducible first | exact HB.out | apply below_alloc | apply pw_below_drewN | apply below_drew1 | refine below_set ?_ (IsS106.ge HI307.out)) | exact HB.out)))); have n2_ := Aside0.mk (hb); have n3_ := Aside0.mk (hi); clear HO310; clear HB; clear HI307; have HO310 := n0_; have HO320 := n1_; have HB := n2_; have HI307 := n3_; clear n0_ n1_ n2_ n3_; (try clear hb); (try clear hb2); (try clear hk); (try clear hi); (try clear ho0)))
  go_ret2; exact ⟨_, _, by first | rfl | (simp <;> rfl) | (simp [*] <;> rfl), by (with_reducible repeat (first | apply Kd.R_alloc | apply Kd.R_drewN | apply Kd.R_drew)); exact Kd.R_mono HO310.out (fun _ hk => hk.2), by (with_reducible repeat (first | apply Kd.R_alloc | apply Kd.R_drewN | apply Kd.R_drew)); exact Kd.R_mono HO320.out (fun _ hk => hk.2), by repeat (first | (with_reducible first | exact HB.out | apply below_alloc | apply pw_below_drewN | apply below_drew1 | refine below_set ?_ (IsS106.ge HI307.out)) | exact HB.out)⟩
end Go.Proofs.Ytfnhjaiioojbkaa.Q
end
section
namespace Go.Proofs.Ytfnhjaiioojbkaa.Q
open Go.RowKit Go.Proofs.YtfnhjaiioojbkaaW.PrintWords Go.Proofs.YtfnhjaiioojbkaaW.PrintLast Go.Proofs.YtfnhjaiioojbkaaW.PrintMore
attribute [local go_sem] max2_int min2_int max_two min_two max_three min_three max_four min_four   -- for this text's walks alone
set_option linter.unusedVariables false
set_option linter.unusedSimpArgs false
def spec_DrawDeltaOf.f (k : Nat) (l0 : List Int) : Option (List ByteArray × List ByteArray) := (spec_l30Two.f k l0).bind fun bt322 => (some (bt322.1, bt322.2))
theorem spec_DrawDeltaOf.mono : ∀ a0 k, LeO (spec_DrawDeltaOf.f k a0) (spec_DrawDeltaOf.f (k + 1) a0) := by
 intro a0 k
 unfold spec_DrawDeltaOf.f
 repeat' first
  | (with_reducible exact spec_l30Two.mono _ _)
  | (with_reducible exact LeO.refl _)
  | (with_reducible exact LeO.none _)
  | (with_reducible refine LeO.ite ?_ ?_)
  | (with_reducible refine LeO.bind ?_ (fun _ => ?_))
  | exact spec_l30Two.mono _ _
  | exact LeO.none _
  | refine LeO.ite ?_ ?_
  | refine LeO.bind ?_ (fun _ => ?_)
set_option maxHeartbeats 8000000 in
set_option maxRecDepth 100000 in
theorem spec_DrawDeltaOf.calls (k : Nat) (A0 : Option Addr) (c0 : Nat) (l0 : List Int) (r1 : List ByteArray) (r2 : List ByteArray) (w : World) (hr0 : Kd.C (Kd.int .u8) w A0 l0.length l0) (hc0 : l0.length ≤ c0) (h : spec_DrawDeltaOf.f k l0 = some (r1, r2)) :
 Calls Try.prog 20 #[.slice A0 l0.length c0] w fun e w' => ∃ v0_ v1_ : Value, e = .returned (.tuple #[v0_, v1_]) ∧ Kd.R Kd.string 9 w' w.heap.size (fun k_ => some k_ ≠ (v1_ : Value).ownBlock) v0_ r1 ∧ Kd.R Kd.string 9 w' w.heap.size (fun k_ => some k_ ≠ (v0_ : Value).ownBlock) v1_ r2 ∧ Below w.heap.size w w' := by
 have HR0 := Aside0.mk hr0; have HC0 := Aside0.mk hc0; clear hr0 hc0; have HB := Aside0.mk (Below.refl w.heap.size w); have H : ((spec_l30Two.f k l0).bind fun bt322 => (some (bt322.1, bt322.2))) = some (r1, r2) := h; clear h; replace H := Option.bind_eq_some_iff.mp H; obtain ⟨⟨t322, t323⟩, A20, H⟩ := H; replace H : (some (t322, t323)) = some (r1, r2) := H; have A2 := Aside0.mk A20; clear A20; simp only [Option.some.injEq, Prod.mk.injEq] at H; obtain ⟨rfl, rfl⟩ := H; go_enter Try.func20, Try.ntmps20; go_wp2_with (first | ((with_reducible refine gate_callee (f := 69) rfl ?_); refine goesL_ (some 5) rfl rfl Try.func69 (by kernel_rfl) rfl #[.slice A0 l0.length c0] rfl (by (try simp only [List.map_toArray, List.map_cons, List.map_nil]); first | done | rfl | (simp only [List.length_drop, List.length_take]; rfl)) ?_; (with_reducible refine (spec_l30Two.calls k _ _ l0 t322 t323 _ ?side1 ?side2 A2.out).mono ?_); (case side1 => repeat (first | exact HR0.out | (with_reducible refine Kd.C_alloc ?_ _) | (with_reducible refine Kd.C_drewN ?_ _) | (with_reducible refine Kd.C_drew ?_))); (case side2 => exact HC0.out); rintro e w3 ⟨v324, v326, rfl, ho0, ho1, hb⟩; refine ⟨_, rfl, ?_⟩; have n0_ := Aside0.mk (Kd.R_lower ho0 (below_size (by repeat (first | (with_reducible first | exact HB.out | apply below_alloc | apply pw_below_drewN | apply below_drew1) | exact HB.out)))); have n1_ := Aside0.mk (Kd.R_lower ho1 (below_size (by repeat (first | (with_reducible first | exact HB.out | apply below_alloc | apply pw_below_drewN | apply below_drew1) | exact HB.out)))); have n2_ := Aside0.mk (below_step (by repeat (first | (with_reducible first | exact HB.out | apply below_alloc | apply pw_below_drewN | apply below_drew1) | exact HB.out)) hb); clear HB; have HO325 := n0_; have HO327 := n1_; have HB := n2_; clear n0_ n1_ n2_; (try clear hb); (try clear hb2); (try clear hk); (try clear hi); (try clear ho0); (try clear ho1))); go_ret2; exact ⟨_, _, by first | rfl | (simp <;> rfl) | (simp [*] <;> rfl), by (with_reducible repeat (first | apply Kd.R_alloc | apply Kd.R_drewN | apply Kd.R_drew)); exact HO325.out, by (with_reducible repeat (first | apply Kd.R_alloc | apply Kd.R_drewN | apply Kd.R_drew)); exact HO327.out, by repeat (first | (with_reducible first | exact HB.out | apply below_alloc | apply pw_below_drewN | apply below_drew1) | exact HB.out)⟩
end Go.Proofs.Ytfnhjaiioojbkaa.Q
end
section
namespace Go.Proofs.Ytfnhjaiioojbkaa.Q
open Go.RowKit Go.Proofs.YtfnhjaiioojbkaaW.PrintWords
set_option linter.unusedVariables false
set_option linter.unusedSimpArgs false
theorem bytes_of {l : List Int} (h : ∀ x ∈ l, (Lit.int .u8 x).wf = true) : ∀ x ∈ l, 0 ≤ x ∧ x ≤ 255 := fun x hx => by
  have := h x hx
  simp [Lit.wf, IntKind.bits, IntKind.signed, IntKind.min, IntKind.max] at this
  omega
theorem Sm_of {l : List ByteArray} (h : l.length ≤ 100) (hz : Sz l) : Sm l := ⟨by omega, fun s hs => by have := hz s hs; omega⟩
theorem two_ev {l : List Int} (h : ∀ x ∈ l, 0 ≤ x ∧ x ≤ 255) : ∃ a b, Ev (fun k => spec_DrawDeltaOf.f k l) (a, b) ∧ Sm a ∧ Sm b := by
  obtain ⟨c, hc, hb⟩ := open_ev h
  obtain ⟨a, p, ha, la, za, p1, p2⟩ := anyText_ev hb (p := 0) (by omega) (by omega)
  obtain ⟨v, hv, v0, v1⟩ := pick_ev hb (p := p) ⟨by omega, by omega⟩ (n := 4) (by omega)
  obtain ⟨b, q, hb2, lb, zb, q1, q2⟩ := anyText_ev hb (p := p + 1) (by omega) (by omega)
  obtain ⟨b', q', hb3, lb', zb', q1', q2'⟩ := turn_ev hb (p := p + 1) (by omega) (by omega) a (by omega) za
  unfold spec_DrawDeltaOf.f spec_l30Two.f
  simp only [hc, Option.bind_some]
  by_cases h0 : v = 0
  · exact ⟨a, b, Ev.bind (Ev.bind ha (Ev.bind hv (Ev.posf h0 (Ev.bind hb2 (Ev.now _))))) (Ev.now _), Sm_of (by omega) za, Sm_of (by omega) zb⟩
  · exact ⟨a, b', Ev.bind (Ev.bind ha (Ev.bind hv (Ev.negf h0 (Ev.bind hb3 (Ev.now _))))) (Ev.now _), Sm_of (by omega) za, Sm_of (by omega) zb'⟩
theorem SmD_ofB (a b : Tx) : SmD (ofB a b) := by
  by_cases h : textB a = true ∧ textB b = true
  · rw [ofB, if_pos h]
    obtain ⟨h1, h2⟩ := deltaB_len (dOf_ok h.1 h.2)
    refine ⟨by omega, fun x hx => ?_⟩
    obtain ⟨_, _, _, p4, p5⟩ := piece_ok (h2 x hx)
    exact ⟨by omega, fun s hs => by have := p5 s hs; omega⟩
  · rw [ofB, if_neg h]
    exact ⟨by simp, by simp⟩
theorem Sm_nil : Sm [] := ⟨by simp, by simp⟩
end Go.Proofs.Ytfnhjaiioojbkaa.Q
end
section
namespace Go.Proofs.Ytfnhjaiioojbkaa.Q
open Go.RowKit Go.Proofs.YtfnhjaiioojbkaaW.PrintWords
set_option linter.unusedVariables false
set_option linter.unusedSimpArgs false
abbrev Pk := S53
def sz (d : List Dl) : Nat := d.length + (d.map (fun x => x.f2.length)).sum
def txAt (l : List Tx) (j : Nat) : Tx := l.getD j []
def pkAt (P : List Pk) (j : Nat) : Pk := P.getD j z53
def dpAt (D : List Int) (j : Nat) : Int := D.getD j 0
/-- The best base among the first texts. -/
def bst (l : List Tx) (D : List Int) (t : Tx) : Nat → Int × List Dl
  | 0 => (-1, dOf [] t)
  | j + 1 => if dpAt D j < 3 ∧ sz (dOf (txAt l j) t) < sz (bst l D t j).2 then ((j : Int), dOf (txAt l j) t) else bst l D t j
def dep (D : List Int) (b : Int) : Int := if 0 ≤ b then dpAt D b.toNat + 1 else 1
def pkn (l : List Tx) (q : List Pk × List Int) (b : Int × List Dl) : List Pk × List Int := (q.1 ++ [⟨b.1, b.2⟩], q.2 ++ [dep q.2 b.1])
def pk (l : List Tx) : Nat → List Pk × List Int
  | 0 => ([], [])
  | n + 1 => pkn l (pk l n) (bst l (pk l n).2 (txAt l n) n)
theorem rd_tx (l : List Tx) (j : Nat) : rd_L2 l (j : Int) = txAt l j := by simp [rd_L2, txAt]
theorem rd_pk (P : List Pk) (j : Nat) : rd_T53 P (j : Int) = pkAt P j := by simp [rd_T53, pkAt]
theorem rd_dp (D : List Int) (j : Nat) : rd D (j : Int) = dpAt D j := by show D.getD (j : Int).toNat 0 = _; simp [dpAt]
theorem dpAt_old {D : List Int} {j : Nat} (x : Int) (h : j < D.length) : dpAt (D ++ [x]) j = dpAt D j := by
  simp [dpAt, List.getD_eq_getElem?_getD, List.getElem?_append, h]
theorem dpAt_new (D : List Int) (x : Int) : dpAt (D ++ [x]) D.length = x := by
  simp [dpAt, List.getD_eq_getElem?_getD, List.getElem?_append]
theorem pkAt_old {P : List Pk} {j : Nat} (x : Pk) (h : j < P.length) : pkAt (P ++ [x]) j = pkAt P j := by
  simp [pkAt, List.getD_eq_getElem?_getD, List.getElem?_append, h]
theorem pkAt_new (P : List Pk) (x : Pk) : pkAt (P ++ [x]) P.length = x := by
  simp [pkAt, List.getD_eq_getElem?_getD, List.getElem?_append]
/-- A pack's one, beside the texts. -/
def OkAt (l : List Tx) (D : List Int) (j : Nat) (p : Pk) : Prop :=
  (sz p.f1 ≤ sz (dOf [] (txAt l j)) ∧ 1 ≤ dpAt D j ∧ dpAt D j ≤ 3) ∧
  ((p.f0 = -1 ∧ p.f1 = dOf [] (txAt l j) ∧ dpAt D j = 1) ∨ ∃ b : Nat, b < j ∧ p.f0 = (b : Int) ∧ p.f1 = dOf (txAt l b) (txAt l j) ∧ dpAt D j = dpAt D b + 1)
def Gd (l : List Tx) (P : List Pk) (D : List Int) (n : Nat) : Prop := P.length = n ∧ D.length = n ∧ ∀ j, j < n → OkAt l D j (pkAt P j)
theorem bst_ok (l : List Tx) (D : List Int) (t : Tx) : ∀ m, sz (bst l D t m).2 ≤ sz (dOf [] t) ∧ ((bst l D t m).1 = -1 ∧ (bst l D t m).2 = dOf [] t ∨ ∃ b : Nat, b < m ∧ (bst l D t m).1 = (b : Int) ∧ (bst l D t m).2 = dOf (txAt l b) t ∧ dpAt D b < 3)
  | 0 => ⟨Nat.le_refl _, .inl ⟨rfl, rfl⟩⟩
  | m + 1 => by
    obtain ⟨h1, h2⟩ := bst_ok l D t m
    by_cases c : dpAt D m < 3 ∧ sz (dOf (txAt l m) t) < sz (bst l D t m).2
    · rw [bst, if_pos c]
      exact ⟨by show sz (dOf (txAt l m) t) ≤ _; omega, .inr ⟨m, by omega, rfl, rfl, c.1⟩⟩
    · rw [bst, if_neg c]
      refine ⟨h1, ?_⟩
      rcases h2 with h2 | ⟨b, h3, h4⟩
      · exact .inl h2
      · exact .inr ⟨b, by omega, h4⟩
theorem pk_ok (l : List Tx) : ∀ n, Gd l (pk l n).1 (pk l n).2 n
  | 0 => ⟨rfl, rfl, fun j h => by omega⟩
  | n + 1 => by
    obtain ⟨h1, h2, h3⟩ := pk_ok l n
    obtain ⟨b1, b2⟩ := bst_ok l (pk l n).2 (txAt l n) n
    rw [pk, pkn]
    generalize bst l (pk l n).2 (txAt l n) n = B at b1 b2
    generalize (pk l n).1 = P at h1 h3
    generalize (pk l n).2 = D at h2 h3 b2
    subst h1
    refine ⟨by simp, by simp [h2], fun j hj => ?_⟩
    by_cases hjn : j = P.length
    · subst hjn
      have e : dpAt (D ++ [dep D B.1]) P.length = dep D B.1 := by rw [← h2]; exact dpAt_new _ _
      rw [pkAt_new]
      unfold OkAt
      rw [e]
      rcases b2 with ⟨c1, c2⟩ | ⟨b, c0, c1, c2, c3⟩
      · have ed : dep D B.1 = 1 := by rw [c1]; rfl
        rw [ed]
        exact ⟨⟨b1, by omega, by omega⟩, .inl ⟨c1, c2, rfl⟩⟩
      · have hb := (h3 b c0).1.2
        have ed : dep D B.1 = dpAt D b + 1 := by rw [c1]; simp [dep]
        rw [ed]
        exact ⟨⟨b1, by omega, by omega⟩, .inr ⟨b, c0, c1, c2, by rw [dpAt_old _ (by omega)]⟩⟩
    · have hj' : j < P.length := by omega
      obtain ⟨g1, g2⟩ := h3 j hj'
      rw [pkAt_old _ hj']
      unfold OkAt
      rw [dpAt_old _ (by omega)]
      refine ⟨g1, ?_⟩
      rcases g2 with g2 | ⟨b, c0, c1, c2, c3⟩
      · exact .inl g2
      · exact .inr ⟨b, c0, c1, c2, by rw [dpAt_old _ (by omega)]; exact c3⟩
theorem sum_le {d : List Dl} (h : ∀ x ∈ d, x.f2.length ≤ 10) : (d.map (fun x => x.f2.length)).sum ≤ 10 * d.length := by
  induction d with
  | nil => simp
  | cons a d ih =>
    have h1 := h a (by simp)
    have h2 := ih (fun x hx => h x (by simp [hx]))
    simp only [List.map_cons, List.sum_cons, List.length_cons]
    omega
theorem sz_le {d : List Dl} (h : deltaB d = true) : sz d ≤ 110 := by
  obtain ⟨h1, h2⟩ := deltaB_len h
  have := sum_le (fun x hx => (piece_ok (h2 x hx)).2.2.2.1)
  unfold sz; omega
theorem implSize0_ev (d : List Dl) (hd : ∀ x ∈ d, x.f2.length ≤ 10) (hl : d.length ≤ 1000) : ∀ (n i : Nat) (acc : Nat), i ≤ d.length → d.length - i = n → acc ≤ 1000 + 10 * i →
    Ev (fun k => impl_deltaSize.l0 k (acc : Int) d d.length i) ((acc + ((d.drop i).map (fun x => x.f2.length)).sum : Nat) : Int)
  | 0, i, acc, hi, hn, ha => by
    rw [List.drop_eq_nil_of_le (by omega)]
    refine Ev.step' ?_
    simp only [impl_deltaSize.l0]
    exact Ev.negf (by omega) (EvT (Ev.now _) (by simp))
  | n + 1, i, acc, hi, hn, ha => by
    have h : i < d.length := by omega
    have hh := hd _ (List.getElem_mem h)
    rw [List.drop_eq_getElem_cons h]
    have ih := implSize0_ev d hd hl n (i + 1) (acc + d[i].f2.length) (by omega) (by omega) (by omega)
    refine Ev.step' ?_
    simp only [impl_deltaSize.l0, rdD h, w64_add acc _ (show acc + d[i].f2.length ≤ 1000000000000 by omega), w64_succ i (by omega)]
    refine Ev.posf (by omega) (Ev.posf (by omega) (Ev.posf (by omega) (EvT ih ?_)))
    simp only [List.map_cons, List.sum_cons]
    omega
theorem implSize_ev {d : List Dl} (h : deltaB d = true) : Ev (fun k => impl_deltaSize.f k d) (sz d : Int) := by
  obtain ⟨h1, h2⟩ := deltaB_len h
  unfold impl_deltaSize.f
  exact implSize0_ev d (fun x hx => (piece_ok (h2 x hx)).2.2.2.1) (by omega) _ 0 d.length (by omega) rfl (by omega)
theorem specSize0_ev (d : List Dl) (hd : ∀ x ∈ d, x.f2.length ≤ 10) (hl : d.length ≤ 1000) : ∀ (n i : Nat) (acc : Nat), i ≤ d.length → d.length - i = n → acc ≤ 1000 + 10 * i →
    Ev (fun k => spec_l13Size.l0 k d (acc : Int) i) ((acc + ((d.drop i).map (fun x => x.f2.length)).sum : Nat) : Int)
  | 0, i, acc, hi, hn, ha => by
    rw [List.drop_eq_nil_of_le (by omega)]
    refine Ev.step' ?_
    simp only [spec_l13Size.l0]
    exact Ev.negf (by omega) (EvT (Ev.now _) (by simp))
  | n + 1, i, acc, hi, hn, ha => by
    have h : i < d.length := by omega
    have hh := hd _ (List.getElem_mem h)
    rw [List.drop_eq_getElem_cons h]
    have ih := specSize0_ev d hd hl n (i + 1) (acc + d[i].f2.length) (by omega) (by omega) (by omega)
    refine Ev.step' ?_
    simp only [spec_l13Size.l0, rdD h, w64_add acc _ (show acc + d[i].f2.length ≤ 1000000000000 by omega), w64_succ i (by omega)]
    refine Ev.posf (by omega) (Ev.posf (by omega) (EvT ih ?_))
    simp only [List.map_cons, List.sum_cons]
    omega
theorem specSize_ev {d : List Dl} (h : deltaB d = true) : Ev (fun k => spec_l13Size.f k d) (sz d : Int) := by
  obtain ⟨h1, h2⟩ := deltaB_len h
  unfold spec_l13Size.f
  exact specSize0_ev d (fun x hx => (piece_ok (h2 x hx)).2.2.2.1) (by omega) _ 0 d.length (by omega) rfl (by omega)
theorem deep_ev {l : List Tx} {P : List Pk} {D : List Int} {n : Nat} (g : Gd l P D n) : ∀ (N j : Nat) (c : Int), j ≤ N → j < n → 1 ≤ c → c ≤ 1000 - dpAt D j →
    Ev (fun k => spec_l13Deep.l0 k P (j : Int) c) (c + dpAt D j - 1)
  | N, j, c, hN, hj, h1, h2 => by
    obtain ⟨⟨_, d1, d2⟩, g2⟩ := g.2.2 j hj
    refine Ev.step' ?_
    simp only [spec_l13Deep.l0, rd_pk]
    refine Ev.posf (by omega) (Ev.posf (by have := g.1; omega) ?_)
    rcases g2 with ⟨e0, e1, e2⟩ | ⟨b, c0, c1, c2, c3⟩
    · exact Ev.negf (by omega) (EvT (Ev.now _) (by omega))
    · rw [c1, w64 (by omega) (by omega)]
      refine Ev.posf (by omega) ?_
      match N, hN with
      | 0, hN => omega
      | N + 1, hN => exact EvT (deep_ev g N b (c + 1) (by omega) (by omega) (by omega) (by omega)) (by omega)
theorem specDeep_ev {l : List Tx} {P : List Pk} {D : List Int} {n : Nat} (g : Gd l P D n) {j : Nat} (hj : j < n) : Ev (fun k => spec_l13Deep.f k P (j : Int)) (dpAt D j) := by
  have hd := (g.2.2 j hj).1.2
  exact EvT (deep_ev g j j 1 (by omega) hj (by omega) (by omega)) (by omega)
theorem bst_delta {l : List Tx} (D : List Int) {t : Tx} (ht : textB t = true) (m : Nat) (hl : ∀ j, j < m → textB (txAt l j) = true) : deltaB (bst l D t m).2 = true := by
  obtain ⟨_, h | ⟨b, h1, h2, h3, h4⟩⟩ := bst_ok l D t m
  · rw [h.2]; exact dOf_ok rfl ht
  · rw [h3]; exact dOf_ok (hl b h1) ht
theorem implBst_ev {l : List Tx} {P : List Pk} {D : List Int} {i : Nat} (g : Gd l P D i) (hi : i < l.length) (hl : l.length ≤ 12) (ok : ∀ j, j ≤ i → textB (txAt l j) = true) (r : List Pk)
    (hr : Ev (fun k => impl_PackOf.l0 k l (pkn l (P, D) (bst l D (txAt l i) i)).1 (pkn l (P, D) (bst l D (txAt l i) i)).2 l l.length ((i + 1 : Nat) : Int)) r) :
    ∀ (d j : Nat), i - j = d → j ≤ i → Ev (fun k => impl_PackOf.l1 k l P D (txAt l i) (dep D (bst l D (txAt l i) j).1) l l.length i i j (bst l D (txAt l i) j).1 (bst l D (txAt l i) j).2) r
  | 0, j, hd, hj => by
    obtain rfl : j = i := by omega
    have h1 := g.1
    have h2 := g.2.1
    refine Ev.step' ?_
    simp only [impl_PackOf.l1, w64_succ j (by omega)]
    exact Ev.negf (by omega) (Ev.posf (by omega) (Ev.posf (by omega) hr))
  | d + 1, j, hd, hj => by
    have hj' : j < i := by omega
    have h1 := g.1
    have h2 := g.2.1
    have hdp := (g.2.2 j hj').1.2
    have ih := implBst_ev g hi hl ok r hr d (j + 1) (by omega) (by omega)
    have t1 := textB_len (ok j (by omega))
    have t2 := textB_len (ok i (by omega))
    have s1 := implSize_ev (dOf_ok (ok j (by omega)) (ok i (by omega)))
    have s2 := implSize_ev (bst_delta (l := l) D (ok i (by omega)) j (fun j hj => ok j (by omega)))
    refine Ev.step' ?_
    simp only [impl_PackOf.l1, rd_dp, rd_tx, w64_succ j (by omega), w64 (x := dpAt D j + 1) (by omega) (by omega)]
    refine Ev.posf (by omega) (Ev.posf (by omega) (Ev.posf (by omega) (Ev.ite (fun c => ?_) (fun c => Ev.posf (by omega) (Ev.bind (implOf_ev (by omega) (by omega)) (Ev.bind s1 (Ev.bind s2 (Ev.ite (fun c2 => ?_) (fun c2 => ?_)))))))))
    · rw [bst, if_neg (by omega)] at ih
      exact ih
    · rw [bst, if_pos (by omega)] at ih
      simp only [dep, Int.toNat_natCast] at ih
      rw [if_pos (by omega)] at ih
      exact ih
    · rw [bst, if_neg (by omega)] at ih
      exact ih
theorem implPack0_ev {l : List Tx} (hl : l.length ≤ 12) (ok : ∀ j, j < l.length → textB (txAt l j) = true) : ∀ (d i : Nat), l.length - i = d → i ≤ l.length →
    Ev (fun k => impl_PackOf.l0 k l (pk l i).1 (pk l i).2 l l.length i) (pk l l.length).1
  | 0, i, hd, hi => by
    obtain rfl : i = l.length := by omega
    refine Ev.step' ?_
    simp only [impl_PackOf.l0]
    exact Ev.negf (by omega) (Ev.now _)
  | d + 1, i, hd, hi => by
    have hi' : i < l.length := by omega
    have ih := implPack0_ev hl ok d (i + 1) (by omega) (by omega)
    have t2 := textB_len (ok i hi')
    have hb := implBst_ev (pk_ok l i) hi' hl (fun j hj => ok j (by omega)) _ ih i 0 (by omega) (by omega)
    refine Ev.step' ?_
    simp only [impl_PackOf.l0, rd_tx]
    exact Ev.posf (by omega) (Ev.posf (by omega) (Ev.posf (by omega) (Ev.bind (implOf_ev (by simp) (by omega)) hb)))
theorem specBst_ev {l : List Tx} {P : List Pk} {D : List Int} {i : Nat} (g : Gd l P D i) (hi : i < l.length) (hl : l.length ≤ 12) (ok : ∀ j, j ≤ i → textB (txAt l j) = true) (r : List Pk)
    (hr : Ev (fun k => spec_PackOf.l0 k l (pkn l (P, D) (bst l D (txAt l i) i)).1 ((i + 1 : Nat) : Int)) r) :
    ∀ (d j : Nat), i - j = d → j ≤ i → Ev (fun k => spec_PackOf.l1 k l P i j (bst l D (txAt l i) j).1 (bst l D (txAt l i) j).2) r
  | 0, j, hd, hj => by
    obtain rfl : j = i := by omega
    have h1 := g.1
    refine Ev.step' ?_
    simp only [spec_PackOf.l1, w64_succ j (by omega)]
    exact Ev.negf (by omega) (Ev.posf (by omega) hr)
  | d + 1, j, hd, hj => by
    have hj' : j < i := by omega
    have h1 := g.1
    have ih := specBst_ev g hi hl ok r hr d (j + 1) (by omega) (by omega)
    have t1 := textB_len (ok j (by omega))
    have t2 := textB_len (ok i (by omega))
    have s1 := specSize_ev (dOf_ok (ok j (by omega)) (ok i (by omega)))
    have s2 := specSize_ev (bst_delta (l := l) D (ok i (by omega)) j (fun j hj => ok j (by omega)))
    refine Ev.step' ?_
    simp only [spec_PackOf.l1, rd_tx, w64_succ j (by omega)]
    refine Ev.posf (by omega) (Ev.posf (by omega) (Ev.posf (by omega) (Ev.posf (by omega) (Ev.posf (by omega) (Ev.bind (specOf_ev (by omega) (by omega)) (Ev.bind (specDeep_ev g hj') (Ev.ite (fun c => Ev.bind s1 (Ev.bind s2 (Ev.ite (fun c2 => ?_) (fun c2 => ?_)))) (fun c => ?_))))))))
    · rw [bst, if_pos (by omega)] at ih
      exact ih
    · rw [bst, if_neg (by omega)] at ih
      exact ih
    · rw [bst, if_neg (by omega)] at ih
      exact ih
/-- What both makers answer. -/
def packB (l : List Tx) : List Pk := if l.length ≤ 12 ∧ l.all textB = true then (pk l l.length).1 else []
theorem all_at {l : List Tx} (h : l.all textB = true) : ∀ j, j < l.length → textB (txAt l j) = true := fun j hj => by
  rw [List.all_eq_true] at h
  have := h _ (List.getElem_mem hj)
  simpa [txAt, List.getD_eq_getElem?_getD, hj] using this
theorem specPack0_ev {l : List Tx} (hl : l.length ≤ 12) (hs : ∀ x ∈ l, Sm x) : ∀ (d i : Nat), l.length - i = d → i ≤ l.length → (∀ j, j < i → textB (txAt l j) = true) →
    Ev (fun k => spec_PackOf.l0 k l (pk l i).1 i) (if (l.drop i).all textB = true then (pk l l.length).1 else [])
  | 0, i, hd, hi, ok => by
    obtain rfl : i = l.length := by omega
    refine Ev.step' ?_
    simp only [spec_PackOf.l0]
    exact Ev.negf (by omega) (EvT (Ev.now _) (by simp))
  | d + 1, i, hd, hi, ok => by
    have hi' : i < l.length := by omega
    have e : txAt l i = l[i] := by simp [txAt, List.getD_eq_getElem?_getD, hi']
    have hT := specText_ev (txAt l i) (by rw [e]; exact hs _ (List.getElem_mem hi'))
    rw [List.drop_eq_getElem_cons hi', List.all_cons, ← e]
    refine Ev.step' ?_
    simp only [spec_PackOf.l0, rd_tx]
    refine Ev.posf (by omega) (Ev.posf (by omega) (Ev.bind hT (Ev.ite (fun c => ?_) (fun c => EvT (Ev.now _) ?_))))
    · have ok' : ∀ j, j ≤ i → textB (txAt l j) = true := fun j hj => by
        by_cases hji : j = i
        · rw [hji]; exact c
        · exact ok j (by omega)
      have ih := specPack0_ev hl hs d (i + 1) (by omega) (by omega) (fun j hj => ok' j (by omega))
      have t2 := textB_len c
      rw [c, Bool.true_and]
      exact Ev.bind (specOf_ev (by simp) (by omega)) (specBst_ev (pk_ok l i) hi' hl ok' _ ih i 0 (by omega) (by omega))
    · rw [if_neg (by simp [c])]
theorem specPack_ev (l : List Tx) (hs : ∀ x ∈ l, Sm x) : Ev (fun k => spec_PackOf.f k l) (packB l) := by
  unfold spec_PackOf.f packB
  refine Ev.ite (fun c => EvT (Ev.now _) (by rw [if_neg (by omega)])) (fun c => ?_)
  have h := specPack0_ev (l := l) (by omega) hs _ 0 rfl (by omega) (fun j hj => by omega)
  rw [List.drop_zero] at h
  refine EvT h ?_
  by_cases c2 : l.all textB = true
  · rw [if_pos c2, if_pos ⟨by omega, c2⟩]
  · rw [if_neg c2, if_neg (fun h => c2 h.2)]
theorem implPack_ev (l : List Tx) (hs : ∀ x ∈ l, Sm x) : Ev (fun k => impl_PackOf.f k l) (packB l) := by
  have hA : Ev (fun k => impl_PackOf_any.f k l) (l.any (fun x => !textB x)) := anyF_ev (fun k => impl_PackOf_1.f k) _ l (fun x hx => Ev.bind (implText_ev x (hs x hx)) (Ev.now _))
  unfold impl_PackOf.f packB
  refine Ev.somef (Ev.somef (Ev.ite (fun c => ?_) (fun c => Ev.bind hA ?_)))
  · refine Ev.step' ?_
    simp only [impl_PackOf.j0]
    exact Ev.posf trivial (EvT (Ev.now _) (by rw [if_neg (by omega)]))
  · refine Ev.step' ?_
    simp only [impl_PackOf.j0]
    by_cases c2 : l.all textB = true
    · rw [if_pos ⟨by omega, c2⟩]
      refine Ev.negf (by rw [List.all_eq_true] at c2; simp; exact c2) ?_
      exact implPack0_ev (by omega) (all_at c2) _ 0 rfl (by omega)
    · rw [if_neg (fun h => c2 h.2)]
      refine Ev.posf ?_ (Ev.now _)
      simp only [List.all_eq_true] at c2
      simp only [List.any_eq_true, Bool.not_eq_true']
      exact Classical.byContradiction fun h => c2 fun x hx => by
        cases e : textB x with
        | true => rfl
        | false => exact absurd ⟨x, hx, e⟩ h
end Go.Proofs.Ytfnhjaiioojbkaa.Q
end
section
namespace Go.Proofs.Ytfnhjaiioojbkaa.Q
open Go.RowKit Go.Proofs.YtfnhjaiioojbkaaW.PrintWords
set_option linter.unusedVariables false
set_option linter.unusedSimpArgs false
theorem within_ev {a b c : Int} (h0 : b ≤ a) (h1 : a ≤ c) : Ev (fun k => impl_within.f a b c) true := by
  unfold impl_within.f
  exact Ev.posf h0 (EvT (Ev.now _) (decide_eq_true h1))
theorem txAt_get {l : List Tx} {j : Nat} (h : j < l.length) : l[j] = txAt l j := by simp [txAt, List.getD_eq_getElem?_getD, h]
theorem txAt_take {l : List Tx} {i j : Nat} (h : j < i) : txAt (l.take i) j = txAt l j := by
  simp [txAt, List.getD_eq_getElem?_getD, List.getElem?_take, h]
theorem dpAt_take {l : List Int} {i j : Nat} (h : j < i) : dpAt (l.take i) j = dpAt l j := by
  simp [dpAt, List.getD_eq_getElem?_getD, List.getElem?_take, h]
theorem take_tx {l : List Tx} {i : Nat} (h : i < l.length) : l.take i ++ [txAt l i] = l.take (i + 1) := by
  rw [← txAt_get h, List.take_append_getElem h]
theorem take_dp {l : List Int} {i : Nat} (h : i < l.length) : l.take i ++ [dpAt l i] = l.take (i + 1) := by
  rw [← List.take_append_getElem h]
  simp [dpAt, List.getD_eq_getElem?_getD, h]
/-- A pack of good texts is unpacked to them. -/
theorem unpack0_ev {l : List Tx} {P : List Pk} {D : List Int} (g : Gd l P D l.length) (hl : l.length ≤ 12) (ok : ∀ j, j < l.length → textB (txAt l j) = true) : ∀ (d i : Nat), l.length - i = d → i ≤ l.length →
    Ev (fun k => impl_unpacked.l0 k (l.take i) (D.take i) P (P.length : Int) i) (l, D, true)
  | 0, i, hd, hi => by
    obtain rfl : i = l.length := by omega
    have h1 := g.1
    have h2 := g.2.1
    refine Ev.step' ?_
    simp only [impl_unpacked.l0]
    refine Ev.negf (by omega) (EvT (Ev.now _) ?_)
    rw [List.take_length, ← h2, List.take_length]
  | d + 1, i, hd, hi => by
    have hi' : i < l.length := by omega
    have h1 := g.1
    have h2 := g.2.1
    have ih := unpack0_ev g hl ok d (i + 1) (by omega) (by omega)
    obtain ⟨⟨_, d1, d2⟩, g2⟩ := g.2.2 i hi'
    have lt : (l.take i).length = i := by simp; omega
    have ld : (D.take i).length = i := by simp; omega
    have sT := textB_Sm (ok i hi')
    refine Ev.step' ?_
    simp only [impl_unpacked.l0, rd_pk]
    refine Ev.posf (by omega) (Ev.posf (by omega) (Ev.posf (by omega) (Ev.negf (by omega) ?_)))
    rcases g2 with ⟨e0, e1, e2⟩ | ⟨b, c0, c1, c2, c3⟩
    · rw [e0, e1]
      have hdo := implDeltaDo_ev [] (dOf [] (txAt l i)) Sm_nil (by have := SmD_ofB [] (txAt l i); rw [ofB, if_pos ⟨rfl, ok i hi'⟩] at this; exact this)
      rw [doB_of rfl (ok i hi')] at hdo
      refine Ev.bind (within_ev (by omega) (by rw [w64 (by omega) (by omega)]; omega)) (Ev.step' ?_)
      simp only [impl_unpacked.j1, w64_succ i (by omega)]
      refine Ev.negf (by decide) (Ev.negf (by omega) (Ev.bind hdo (Ev.posf rfl (Ev.negf (by omega) (Ev.posf (by omega) (Ev.posf (by omega) ?_))))))
      rw [take_tx hi', ← e2, take_dp (by omega)]
      exact ih
    · rw [c1, c2]
      have hb := (g.2.2 b (by omega)).1.2
      have okb := ok b (by omega)
      have hdo := implDeltaDo_ev (txAt l b) (dOf (txAt l b) (txAt l i)) (textB_Sm okb) (by have := SmD_ofB (txAt l b) (txAt l i); rw [ofB, if_pos ⟨okb, ok i hi'⟩] at this; exact this)
      rw [doB_of okb (ok i hi')] at hdo
      refine Ev.bind (within_ev (by omega) (by rw [w64 (by omega) (by omega)]; omega)) (Ev.step' ?_)
      simp only [impl_unpacked.j1, w64_succ i (by omega), rd_tx, rd_dp, txAt_take c0, dpAt_take c0, w64 (x := dpAt D b + 1) (by omega) (by omega)]
      refine Ev.negf (by decide) (Ev.posf (by omega) (Ev.posf (by omega) (Ev.posf (by omega) (Ev.posf (by omega) (Ev.bind hdo (Ev.posf rfl (Ev.negf (by omega) (Ev.posf (by omega) (Ev.posf (by omega) ?_)))))))))
      rw [take_tx hi', ← c3, take_dp (by omega)]
      exact ih
theorem unpack_ev {l : List Tx} {P : List Pk} {D : List Int} (g : Gd l P D l.length) (hl : l.length ≤ 12) (ok : ∀ j, j < l.length → textB (txAt l j) = true) : Ev (fun k => impl_unpacked.f k P) (l, D, true) := by
  unfold impl_unpacked.f
  have h := unpack0_ev g hl ok _ 0 rfl (by omega)
  exact h
theorem packGet_ev {l : List Tx} {P : List Pk} {D : List Int} (g : Gd l P D l.length) (hl : l.length ≤ 12) (ok : ∀ j, j < l.length → textB (txAt l j) = true) {j : Nat} (hj : j < l.length) :
    Ev (fun k => impl_PackGet.f k P (j : Int)) (txAt l j, true) := by
  have h1 := g.1
  unfold impl_PackGet.f
  refine Ev.bind (unpack_ev g hl ok) (Ev.posf rfl (Ev.bind (within_ev (by omega) (by rw [w64 (by omega) (by omega)]; omega)) (Ev.posf rfl (Ev.posf (by omega) (Ev.posf (by simp; omega) (EvT (Ev.now _) ?_))))))
  rw [rd_tx]
theorem packOk_ev {l : List Tx} {P : List Pk} {D : List Int} (g : Gd l P D l.length) (hl : l.length ≤ 12) (ok : ∀ j, j < l.length → textB (txAt l j) = true) : Ev (fun k => impl_PackOk.f k P) true := by
  unfold impl_PackOk.f
  exact Ev.bind (unpack_ev g hl ok) (Ev.now _)
/-- The first ones' sum. -/
def psum (f : Nat → Nat) : Nat → Nat
  | 0 => 0
  | n + 1 => psum f n + f n
theorem psum_le {f h : Nat → Nat} : ∀ n, (∀ j, j < n → f j ≤ h j) → psum f n ≤ psum h n
  | 0, _ => Nat.le_refl _
  | n + 1, H => by
    have := psum_le n (fun j hj => H j (by omega))
    have := H n (by omega)
    simp only [psum]; omega
theorem psum_top {f : Nat → Nat} {c : Nat} : ∀ n, (∀ j, j < n → f j ≤ c) → psum f n ≤ c * n
  | 0, _ => by simp [psum]
  | n + 1, H => by
    have := psum_top n (fun j hj => H j (by omega))
    have := H n (by omega)
    simp only [psum, Nat.mul_succ]; omega
def pksz (P : List Pk) (j : Nat) : Nat := sz (pkAt P j).f1
theorem pk_delta {l : List Tx} {P : List Pk} {D : List Int} {n : Nat} (g : Gd l P D n) (ok : ∀ j, j < n → textB (txAt l j) = true) {j : Nat} (hj : j < n) : deltaB (pkAt P j).f1 = true := by
  obtain ⟨_, ⟨_, h, _⟩ | ⟨b, hb, _, h, _⟩⟩ := g.2.2 j hj
  · rw [h]; exact dOf_ok rfl (ok j hj)
  · rw [h]; exact dOf_ok (ok b (by omega)) (ok j hj)
theorem packSize0_ev {l : List Tx} {P : List Pk} {D : List Int} (g : Gd l P D l.length) (hl : l.length ≤ 12) (ok : ∀ j, j < l.length → textB (txAt l j) = true) : ∀ (d i : Nat), l.length - i = d → i ≤ l.length →
    Ev (fun k => impl_PackSize.l0 k (psum (pksz P) i : Int) P (P.length : Int) i) (psum (pksz P) l.length : Int)
  | 0, i, hd, hi => by
    obtain rfl : i = l.length := by omega
    have h1 := g.1
    refine Ev.step' ?_
    simp only [impl_PackSize.l0]
    exact Ev.negf (by omega) (Ev.now _)
  | d + 1, i, hd, hi => by
    have hi' : i < l.length := by omega
    have h1 := g.1
    have ih := packSize0_ev g hl ok d (i + 1) (by omega) (by omega)
    have hs := psum_top (f := pksz P) (c := 110) i (fun j hj => sz_le (pk_delta g ok (by omega)))
    have hz := sz_le (pk_delta g ok hi')
    refine Ev.step' ?_
    simp only [impl_PackSize.l0, rd_pk, w64_succ i (by omega)]
    refine Ev.posf (by omega) (Ev.posf (by omega) (Ev.posf (by omega) (Ev.bind (implSize_ev (pk_delta g ok hi')) ?_)))
    simp only [w64_add (psum (pksz P) i) (sz (pkAt P i).f1) (by omega)]
    exact ih
theorem packSize_ev {l : List Tx} {P : List Pk} {D : List Int} (g : Gd l P D l.length) (hl : l.length ≤ 12) (ok : ∀ j, j < l.length → textB (txAt l j) = true) : Ev (fun k => impl_PackSize.f k P) (psum (pksz P) l.length : Int) := by
  unfold impl_PackSize.f
  exact Ev.bind (packOk_ev g hl ok) (Ev.posf rfl (packSize0_ev g hl ok _ 0 rfl (by omega)))
theorem smPack0_refl {P : List Pk} (hl : P.length ≤ 1000) (h : ∀ j, j < P.length → SmD (pkAt P j).f1) : ∀ (d i : Nat), P.length - i = d → i ≤ P.length → Ev (fun k => laws_smPack.l0 k P P i) true
  | 0, i, hd, hi => by
    refine Ev.step' ?_
    simp only [laws_smPack.l0]
    exact Ev.negf (by omega) (Ev.now _)
  | d + 1, i, hd, hi => by
    refine Ev.step' ?_
    simp only [laws_smPack.l0, rd_pk, w64_succ i (by omega)]
    exact Ev.posf (by omega) (Ev.posf (by omega) (Ev.posf (by omega) (Ev.posf trivial (Ev.bind (smDelta_refl _ (h i (by omega))) (Ev.posf rfl (smPack0_refl hl h d (i + 1) (by omega) (by omega)))))))
theorem smPack_refl {P : List Pk} (hl : P.length ≤ 1000) (h : ∀ j, j < P.length → SmD (pkAt P j).f1) : Ev (fun k => laws_smPack.f k P P) true := by
  unfold laws_smPack.f
  exact Ev.posf rfl (smPack0_refl hl h _ 0 rfl (by omega))
theorem texts0_ev {b : List Int} (hb : Code b) : ∀ (d : Nat) (out : List Tx) (t : Tx) (p : Int), 0 ≤ p → p + 10 * d ≤ 1000000 → out.length + d ≤ 1000 → t.length ≤ 18 → Sz t → (∀ x ∈ out, x.length ≤ 18 ∧ Sz x) →
    ∃ r q, Ev (fun k => spec_l30Texts.l0 k out t d b p) (r, q) ∧ r.length = out.length + d ∧ (∀ x ∈ r, x.length ≤ 18 ∧ Sz x) ∧ p ≤ q ∧ q ≤ p + 10 * d
  | 0, out, t, p, h0, h1, h2, ht, hz, ho => by
    refine ⟨out, p, Ev.step' ?_, by omega, ho, by omega, by omega⟩
    simp only [spec_l30Texts.l0]
    exact Ev.negf (by omega) (Ev.now _)
  | d + 1, out, t, p, h0, h1, h2, ht, hz, ho => by
    obtain ⟨u, p1, hu, lu, zu, g1, g2⟩ := turn_ev hb (p := p) (by omega) (by omega) t (by omega) hz
    obtain ⟨r, q, hr, lr, hr2, q1, q2⟩ := texts0_ev hb d (out ++ [[] ++ t]) u p1 (by omega) (by omega) (by simp; omega) (by omega) zu (fun x hx => by
      rcases List.mem_append.mp hx with hx | hx
      · exact ho x hx
      · simp only [List.nil_append, List.mem_singleton] at hx
        subst hx; exact ⟨ht, hz⟩)
    refine ⟨r, q, Ev.step' ?_, by rw [lr]; simp; omega, hr2, by omega, by omega⟩
    simp only [spec_l30Texts.l0]
    rw [show wrap64 (((d + 1 : Nat) : Int) - 1) = (d : Int) by rw [w64 (by omega) (by omega)]; omega]
    exact Ev.posf (by omega) (Ev.somef (Ev.posf (by simp; omega) (Ev.posf (by omega) (Ev.bind hu hr))))
theorem texts_ev {b : List Int} (hb : Code b) {p : Int} (h0 : 0 ≤ p) (h1 : p ≤ 100000) : ∃ r q, Ev (fun k => spec_l30Texts.f k b p) (r, q) ∧ r.length ≤ 13 ∧ (∀ x ∈ r, x.length ≤ 18 ∧ Sz x) ∧ p ≤ q ∧ q ≤ p + 140 := by
  obtain ⟨t, p1, ht, lt, zt, g1, g2⟩ := text_ev hb h0 (by omega)
  obtain ⟨v, hv, hm⟩ := one_ev hb (p := p1) ⟨by omega, by omega⟩ (l := [0, 2, 5, 12, 13]) (by simp) (by simp)
  have hv8 : 0 ≤ v ∧ v ≤ 13 := by simp at hm; omega
  obtain ⟨d, rfl⟩ := toNat_of hv8.1
  obtain ⟨r, q, hr, lr, hr2, q1, q2⟩ := texts0_ev hb d [] t (p1 + 1) (by omega) (by omega) (by simp; omega) (by omega) zt (fun x hx => by cases hx)
  refine ⟨r, q, ?_, by rw [lr]; simp; omega, hr2, by omega, by omega⟩
  unfold spec_l30Texts.f
  exact Ev.bind ht (Ev.bind hv hr)
theorem drawPackOf_ev {l : List Int} (h : ∀ x ∈ l, 0 ≤ x ∧ x ≤ 255) : ∃ r, Ev (fun k => spec_DrawPackOf.f k l) r ∧ r.length ≤ 14 ∧ ∀ x ∈ r, Sm x := by
  obtain ⟨c, hc, hb⟩ := open_ev h
  obtain ⟨r, q, hr, lr, hr2, q1, q2⟩ := texts_ev hb (p := 0) (by omega) (by omega)
  obtain ⟨v, hv, v0, v1⟩ := pick_ev hb (p := q) ⟨by omega, by omega⟩ (n := 10) (by omega)
  obtain ⟨t, p, ht, lt, zt, p1, p2⟩ := anyText_ev hb (p := q + 1) (by omega) (by omega)
  unfold spec_DrawPackOf.f
  simp only [hc, Option.bind_some]
  by_cases h0 : v = 0
  · refine ⟨r ++ [t], Ev.bind hr (Ev.bind hv (Ev.posf h0 (Ev.bind ht (Ev.posf (by show r.length < _; omega) (Ev.now _))))), by simp; omega, fun x hx => ?_⟩
    rcases List.mem_append.mp hx with hx | hx
    · exact Sm_of (by have := (hr2 x hx).1; omega) (hr2 x hx).2
    · rw [List.mem_singleton] at hx
      subst hx; exact Sm_of (by omega) zt
  · exact ⟨r, Ev.bind hr (Ev.bind hv (Ev.negf h0 (Ev.now _))), by omega, fun x hx => Sm_of (by have := (hr2 x hx).1; omega) (hr2 x hx).2⟩
end Go.Proofs.Ytfnhjaiioojbkaa.Q
end
section
namespace Go.Proofs.Ytfnhjaiioojbkaa.Pure
open Go.RowKit Go.Proofs.Ytfnhjaiioojbkaa.Q Go.Proofs.YtfnhjaiioojbkaaW.PrintWords Go.Proofs.YtfnhjaiioojbkaaW.PrintLast
set_option linter.unusedVariables false
set_option linter.unusedSimpArgs false
def own1 (l : List Tx) (j : Nat) : Nat := sz (dOf [] (txAt l j))
theorem own1_eq (l : List Tx) (j : Nat) : own1 l j = if (txAt l j).length > 0 then (txAt l j).length + 1 else (txAt l j).length := by
  unfold own1
  rw [dOf_nil]
  by_cases h : txAt l j = []
  · rw [if_pos h, h]; rfl
  · rw [if_neg h, if_pos (List.length_pos_iff.mpr h)]; simp [sz]; omega
theorem law0 {l : List Tx} {P : List Pk} {D : List Int} (g : Gd l P D l.length) (hl : l.length ≤ 12) (ok : ∀ j, j < l.length → textB (txAt l j) = true) : ∀ (d i : Nat), l.length - i = d → i ≤ l.length →
    Ev (fun k => laws_FnPackOf.l0 k l P (psum (own1 l) i : Int) i) true
  | 0, i, hd, hi => by
    obtain rfl : i = l.length := by omega
    have h1 := g.1
    have hle := psum_le (f := pksz P) (h := own1 l) l.length (fun j hj => (g.2.2 j hj).1.1)
    refine Ev.step' ?_
    simp only [laws_FnPackOf.l0]
    exact Ev.negf (by omega) (Ev.bind (packOk_ev g hl ok) (Ev.posf rfl (Ev.posf (by omega) (Ev.bind (packSize_ev g hl ok) (EvT (Ev.now _) (decide_eq_true (by omega)))))))
  | d + 1, i, hd, hi => by
    have hi' : i < l.length := by omega
    have ih := law0 g hl ok d (i + 1) (by omega) (by omega)
    have tl := textB_len (ok i hi')
    have hs := psum_top (f := own1 l) (c := 11) i (fun j hj => by have := textB_len (ok j (by omega)); rw [own1_eq]; split <;> omega)
    have hT := smTexts_refl (txAt l i) (by omega)
    refine Ev.step' ?_
    simp only [laws_FnPackOf.l0, rd_tx]
    refine Ev.posf (by omega) (Ev.bind (packGet_ev g hl ok hi') (Ev.posf rfl (Ev.posf (by omega) (Ev.bind hT (Ev.step' ?_)))))
    simp only [laws_FnPackOf.j2, rd_tx, w64_succ i (by omega), w64_add (psum (own1 l) i) (txAt l i).length (by omega)]
    refine Ev.negf (by decide) (Ev.posf (by omega) (Ev.posf (by omega) (Ev.ite (fun c => ?_) (fun c => ?_))))
    · rw [w64_succ _ (by omega)]
      rw [psum, own1_eq, if_pos (by omega), ← Nat.add_assoc] at ih
      exact ih
    · rw [psum, own1_eq, if_neg (by omega)] at ih
      exact ih
theorem FnPackOf : laws_FnPackOf.Pure := by
  intro l _ _ h
  refine Ev.rounds (r := true) (g := fun k => laws_FnPackOf.f k l) ?_
  obtain ⟨r, hd, lr, hs⟩ := drawPackOf_ev (bytes_of h)
  have hI := implPack_ev r hs
  have hS := specPack_ev r hs
  unfold laws_FnPackOf.f
  refine Ev.ite (fun _ => Ev.now _) (fun _ => Ev.bind hd (Ev.bind hI (Ev.bind hS ?_)))
  by_cases c : r.length ≤ 12 ∧ r.all textB = true
  · have ok := all_at c.2
    have g := pk_ok r r.length
    have e : packB r = (pk r r.length).1 := if_pos c
    rw [e] at hS ⊢
    have hSm : Ev (fun k => laws_smPack.f k (pk r r.length).1 (pk r r.length).1) true := smPack_refl (by rw [g.1]; omega) (fun j hj => by
      rw [g.1] at hj
      obtain ⟨h1, h2⟩ := deltaB_len (pk_delta g ok hj)
      exact ⟨by omega, fun x hx => by
        obtain ⟨_, _, _, p4, p5⟩ := piece_ok (h2 x hx)
        exact ⟨by omega, fun s hs => by have := p5 s hs; omega⟩⟩)
    refine Ev.bind hSm (Ev.posf rfl (Ev.step' ?_))
    simp only [laws_FnPackOf.j0]
    refine Ev.ite (fun _ => Ev.bind hS (Ev.bind hSm (Ev.now _))) (fun _ => ?_)
    exact law0 g c.1 ok _ 0 rfl (by omega)
  · have e : packB r = [] := if_neg c
    rw [e] at hS ⊢
    have hSm : Ev (fun k => laws_smPack.f k ([] : List Pk) []) true := smPack_refl (by simp) (fun j hj => by simp at hj)
    refine Ev.bind hSm (Ev.posf rfl (Ev.step' ?_))
    simp only [laws_FnPackOf.j0]
    exact Ev.posf (by rfl) (Ev.bind hS (Ev.bind hSm (Ev.now _)))
end Go.Proofs.Ytfnhjaiioojbkaa.Pure
end
section
namespace Go.Proofs.YtfnhjaiioojbkaaW.PrintWords
open Go.ChangeShapes Go.WideShapes
/-- A row's slice of whole numbers is no longer than its weight allows. -/
theorem sized_ints {H : Type} {enc : TypeId × Value → H} {P : Program} {W : World} {base : Nat} {spare : Nat → Bool} {held : Bool} {t e : TypeId} {k : IntKind} {a : Option Addr} {len cap : Nat} {d : DataW H} {ps : List MemPlace} {ts : List TypeId} {ds : List (DataW H)} {j : Nat}
 (hsz : (DataW.weightsEach P ts ds).all (· ≤ reachBytes) = true) (ht : ts[j]? = some t) (hd : ds[j]? = some d) (hu : P.underlying t = some (.slice e)) (he : P.underlying e = some (.int k)) (hc : P.cellsOf e = 1) {B : Nat} (hB : P.bytesOf e = B)
 (h : DataW.Trod enc P W base spare held t (.slice a len cap) d ps) : len * B ≤ 140737488351232 := by
 obtain ⟨fuel, hf⟩ := h
 rcases open_ints hu he hc hf with ⟨hcs, _⟩ | ⟨x, l, c, zs, hcs, _, hl, _, hz, hx, _, _⟩
 ·simp [Value.cells] at hcs
  obtain ⟨rfl, rfl, rfl⟩ := hcs
  simp
 ·simp [Value.cells] at hcs
  obtain ⟨rfl, rfl, rfl⟩ := hcs
  obtain ⟨hx, _⟩ := Prod.mk.inj hx
  subst hx
  have z := sized_slice hsz ht hd hu
  rw [hB] at z
  have hl2 : len ≤ zs.length := by
   rw [hz]
   split
   ·exact hl
   ·exact Nat.le_refl _
  have h1 : (lits (H := H) k (zs.take len)).length + (lits (H := H) k (zs.drop len)).length = zs.length := by
   simp [lits]
   omega
  rw [h1] at z
  exact Nat.le_trans (Nat.mul_le_mul_right _ hl2) z
end Go.Proofs.YtfnhjaiioojbkaaW.PrintWords
end
section
namespace Go.Proofs.Ytfnhjaiioojbkaa.fnPackOf
open Go.ChangeShapes Go.WideShapes Go.ChangeAt Go.RowKit
open Go.ChangeMaps (open_string shut_string)
set_option linter.unusedVariables false
theorem own : ownKnob Try.prog.godebug = none := by kernel_rfl
theorem laidOut : laidOutB Try.prog = true := by kernel_rfl
def IsRow (k : IntKind) (w : World) (a : Option Addr) (len cap : Nat) (zs : List Int) : Prop :=
  (a = none ∧ len = 0 ∧ cap = 0 ∧ zs = []) ∨
  ∃ x, a = some x ∧ len ≤ cap ∧ cap ≤ maxLen ∧ zs.length = cap ∧ (∀ i, i < zs.length → w.cell? (x.add i) = some (.int k (zs.getD i 0))) ∧ ∀ n ∈ zs, (Lit.int k n).wf = true
set_option maxRecDepth 100000 in
theorem lifted (os : Os) (started : os.Started) (H : Type) (enc : TypeId × Value → H) :
    ReturnsInHanded {} Try.checked os 10 .any (Rows.fnPackOfSpec.pre6 enc Try.prog Try.f10 Rows.fnPackOfRow.domain false) (Rows.fnPackOfSpec.post enc Try.prog Try.f10 false true false false) := by
  refine returnsInHanded_of_change_sized (C := Try.checked) own started (by kernel_rfl) Try.func10
    (ChangeSpec.witness6 (enc := enc) (C := Try.checked) false ⟨#[], #[.slice none 0 0], []⟩ 8 (by kernel_rfl) (by kernel_rfl) (by kernel_rfl) (by kernel_rfl)) ?_
  intro W base args ds gs before hval0 hW hcnd hsz0 _
  have hsz : (DataW.weightsEach Try.prog (Try.f10.params.toList ++ Rows.fnPackOfSpec.plain.varTypes Try.prog) (ds ++ gs)).all (· ≤ reachBytes) = true := hsz0
  have hval : ∀ (j : Nat) t v, Try.f10.params[j]? = some t → args[j]? = some v → Value.okWide Try.prog W .any base t v := hval0
  have hW' := hW
  obtain ⟨p, q, hA0, hV, rfl, hfz, hnd⟩ := hW
  have hA : DataW.TrodAll enc Try.prog W 0 (fun _ => true) true Try.f10.params.toList args.toList ds p := hA0
  rw [Try.params10] at hA hval hsz
  obtain ⟨v0, vs0, d0, ds0, p0, q0, hargs, rfl, rfl, h0, r0⟩ := trodAll_cons hA
  obtain ⟨rfl, rfl, rfl⟩ := trodAll_nil r0
  obtain rfl : args = #[v0] := by cases args; simp_all
  obtain ⟨rfl, rfl⟩ := trodVars_none hV
  obtain ⟨a0, len0, cap0, rfl⟩ := okWide_slice Try.underlying29 (hval 0 29 v0 rfl rfl)
  have k0 := h0
  have lt0 : ∀ x ∈ p0, x.block < W.heap.size := by obtain ⟨m, hm⟩ := k0; exact DataW.trod_lt m _ _ _ hm
  obtain ⟨z0, w0⟩ : ∃ zs, IsRow .u8 W a0 len0 cap0 zs := by
    obtain ⟨fuel, hf⟩ := h0
    rcases open_ints Try.underlying29 Try.underlying5 (by kernel_rfl) hf with ⟨hcs, _⟩ | ⟨x, l, c, zs, hcs, _, hl, hm, hz, _, hcell, hwz⟩
    · simp [Value.cells] at hcs
      obtain ⟨rfl, rfl, rfl⟩ := hcs
      exact ⟨[], .inl ⟨rfl, rfl, rfl, rfl⟩⟩
    · simp [Value.cells] at hcs
      obtain ⟨rfl, rfl, rfl⟩ := hcs
      exact ⟨zs, .inr ⟨_, rfl, hl, hm, by simpa using hz, hcell, hwz⟩⟩
  have y0 : len0 * 1 ≤ 140737488351232 := Go.Proofs.YtfnhjaiioojbkaaW.PrintWords.sized_ints hsz (j := 0) (t := 29) rfl rfl Try.underlying29 Try.underlying5 (by kernel_rfl) (by kernel_rfl) h0
  clear hA0 hval0 hsz0 hsz
  refine (Q.laws_FnPackOf.walk Pure.FnPackOf a0 len0 cap0 z0 W w0 y0).mono fun e W' ⟨he, bel⟩ => ?_
  subst he
  exact ⟨_, rfl, _, _, _, [], _, [], hW', trodAll_mk1 (shut_bool Try.underlying4 _), (trodAll_cons_mk (Below.trod laidOut (by kernel_rfl) (of_decide_eq_true (by kernel_rfl)) k0 bel lt0) trodAll_mk0), rfl, bel.frame _, fun h => by cases h⟩
theorem over : Rows.fnPackOfRow.holds Try.pinned (OpenSpec.ofChange Rows.fnPackOfSpec) :=
  OpenClaim.holds_of_wide 10 Try.f10 rfl rfl rfl rfl rfl rfl rfl ⟨rfl, rfl, rfl, rfl, rfl⟩ rfl rfl rfl rfl rfl (by kernel_rfl) Try.func10 (by kernel_rfl)
    (of_decide_eq_true (by kernel_rfl)) (by unfold Func.isWrapper; first | (rw [if_pos (by decide +kernel)]; kernel_rfl) | (rw [if_neg (by decide +kernel)]; exact ⟨rfl, rfl⟩))
    (fun os started H enc _ => lifted os started H enc)
theorem proved : Rows.FnPackOfSaid := over
#print axioms proved
end Go.Proofs.Ytfnhjaiioojbkaa.fnPackOf
namespace Go.Proofs.Ytfnhjaiioojbkaa
/-- The row, under a short name, for the claim. -/
theorem fnPackOf_holds : Rows.FnPackOfSaid := fnPackOf.proved
end Go.Proofs.Ytfnhjaiioojbkaa
end
