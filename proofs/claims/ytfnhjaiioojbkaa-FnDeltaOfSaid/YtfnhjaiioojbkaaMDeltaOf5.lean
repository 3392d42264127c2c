/- A part of the proof of DeltaOf: functions of the program and the reference, each with what it comes to. -/
import Derived.Laws.BitsLemmas
import Derived.Test.YtfnhjaiioojbkaaMDeltaOf0
import Derived.Test.YtfnhjaiioojbkaaMDeltaOf1
import Derived.Test.YtfnhjaiioojbkaaMDeltaOf2
import Derived.Test.YtfnhjaiioojbkaaMDeltaOf3
import Derived.Test.YtfnhjaiioojbkaaMDeltaOf4
set_option linter.unusedVariables false
set_option linter.unusedSimpArgs false
section
namespace Go.Proofs.Ytfnhjaiioojbkaa.Q
open Go.RowKit Go.Proofs.YtfnhjaiioojbkaaW.PrintWords Go.Proofs.YtfnhjaiioojbkaaW.PrintLast Go.Proofs.YtfnhjaiioojbkaaW.PrintMore
attribute [local go_sem] max2_int min2_int max_two min_two max_three min_three max_four min_four   -- for this text's walks alone
set_option linter.unusedVariables false
set_option linter.unusedSimpArgs false
def laws_FnDeltaOf.j0 : Nat → List ByteArray → List ByteArray → List (S39) → Bool → Option (Bool)
 | 0, _, _, _, _ => none
 | k + 1, x3, x4, x5, x36 => if x36 = true then ((spec_DeltaOf.f k x3 x4).bind fun t490 => ((laws_smDelta.f k x5 t490).bind fun t493 => (some t493))) else ((impl_DeltaDo.f k x3 x5).bind fun bt494 => ((impl_DeltaOf.f k x4 x4).bind fun t498 => ((impl_DeltaOf.f k ([] : List ByteArray) x4).bind fun t501 => (if bt494.2 = true then ((laws_smTexts.f k bt494.1 x4).bind fun t504 => (if t504 = true then ((impl_DeltaOk.f k x5).bind fun t505 => (if t505 = true then (if (t498.length : Int) ≤ 1 then (if (t501.length : Int) ≤ 1 then (if (x4.length : Int) = 0 then (some true) else (if 0 < (t498.length : Int) then (if ((rd_T39 t498 0).f1) = (x4.length : Int) then (if 0 < (t501.length : Int) then ((laws_smTexts.f k ((rd_T39 t501 0).f2) x4).bind fun t508 => (some t508)) else (none)) else (some false)) else (none))) else (some false)) else (some false)) else (some false))) else (some false))) else (some false)))))
def laws_FnDeltaOf.f (k : Nat) (l0 : List Int) : Option (Bool) := if (l0.length : Int) > 1048576 then (some true) else ((spec_DrawDeltaOf.f k l0).bind fun bt475 => ((impl_DeltaOf.f k bt475.1 bt475.2).bind fun t481 => ((spec_DeltaOf.f k bt475.1 bt475.2).bind fun t484 => ((laws_smDelta.f k t481 t484).bind fun t487 => (if t487 = true then ((impl_TextOk.f k bt475.1).bind fun t488 => (if t488 = true then ((impl_TextOk.f k bt475.2).bind fun t489 => (laws_FnDeltaOf.j0 k bt475.1 bt475.2 t481 (!t489))) else (laws_FnDeltaOf.j0 k bt475.1 bt475.2 t481 true))) else (laws_FnDeltaOf.j0 k bt475.1 bt475.2 t481 true))))))
theorem laws_FnDeltaOf.mono_l : ∀ k, (∀ y0 y1 y2 y3, LeO (laws_FnDeltaOf.j0 k y0 y1 y2 y3) (laws_FnDeltaOf.j0 (k + 1) y0 y1 y2 y3))
 | 0 => fun _ _ _ _ r h => by simp [laws_FnDeltaOf.j0] at h
 | k + 1 => by
  have ih0 := laws_FnDeltaOf.mono_l k
  · intro y0 y1 y2 y3
    unfold laws_FnDeltaOf.j0
    repeat' first
    | (with_reducible exact ih0 _ _ _ _)
    | (with_reducible exact impl_DeltaDo.mono _ _ _)
    | (with_reducible exact impl_DeltaOf.mono _ _ _)
    | (with_reducible exact impl_DeltaOk.mono _ _)
    | (with_reducible exact impl_TextOk.mono _ _)
    | (with_reducible exact laws_smDelta.mono _ _ _)
    | (with_reducible exact laws_smTexts.mono _ _ _)
    | (with_reducible exact spec_DeltaOf.mono _ _ _)
    | (with_reducible exact spec_DrawDeltaOf.mono _ _)
    | (with_reducible exact LeO.refl _)
    | (with_reducible exact LeO.none _)
    | (with_reducible refine LeO.ite ?_ ?_)
    | (with_reducible refine LeO.bind ?_ (fun _ => ?_))
    | exact ih0 _ _ _ _
    | exact impl_DeltaDo.mono _ _ _
    | exact impl_DeltaOf.mono _ _ _
    | exact impl_DeltaOk.mono _ _
    | exact impl_TextOk.mono _ _
    | exact laws_smDelta.mono _ _ _
    | exact laws_smTexts.mono _ _ _
    | exact spec_DeltaOf.mono _ _ _
    | exact spec_DrawDeltaOf.mono _ _
    | exact LeO.none _
    | refine LeO.ite ?_ ?_
    | refine LeO.bind ?_ (fun _ => ?_)
theorem laws_FnDeltaOf.mono : ∀ a0 k, LeO (laws_FnDeltaOf.f k a0) (laws_FnDeltaOf.f (k + 1) a0) := by
 intro a0 k
 have ih0 := laws_FnDeltaOf.mono_l k
 unfold laws_FnDeltaOf.f
 repeat' first
  | (with_reducible exact ih0 _ _ _ _)
  | (with_reducible exact impl_DeltaDo.mono _ _ _)
  | (with_reducible exact impl_DeltaOf.mono _ _ _)
  | (with_reducible exact impl_DeltaOk.mono _ _)
  | (with_reducible exact impl_TextOk.mono _ _)
  | (with_reducible exact laws_smDelta.mono _ _ _)
  | (with_reducible exact laws_smTexts.mono _ _ _)
  | (with_reducible exact spec_DeltaOf.mono _ _ _)
  | (with_reducible exact spec_DrawDeltaOf.mono _ _)
  | (with_reducible exact LeO.refl _)
  | (with_reducible exact LeO.none _)
  | (with_reducible refine LeO.ite ?_ ?_)
  | (with_reducible refine LeO.bind ?_ (fun _ => ?_))
  | exact ih0 _ _ _ _
  | exact impl_DeltaDo.mono _ _ _
  | exact impl_DeltaOf.mono _ _ _
  | exact impl_DeltaOk.mono _ _
  | exact impl_TextOk.mono _ _
  | exact laws_smDelta.mono _ _ _
  | exact laws_smTexts.mono _ _ _
  | exact spec_DeltaOf.mono _ _ _
  | exact spec_DrawDeltaOf.mono _ _
  | exact LeO.none _
  | refine LeO.ite ?_ ?_
  | refine LeO.bind ?_ (fun _ => ?_)
set_option maxHeartbeats 8000000 in
set_option maxRecDepth 100000 in
theorem laws_FnDeltaOf.calls (k : Nat) (A0 : Option Addr) (c0 : Nat) (l0 : List Int) (r : Bool) (w : World) (hr0 : Kd.C (Kd.int .u8) w A0 l0.length l0) (hc0 : l0.length ≤ c0) (h : laws_FnDeltaOf.f k l0 = some r) :
 Calls Try.prog 4 #[.slice A0 l0.length c0] w fun e w' => e = .returned (.bool r) ∧ Below w.heap.size w w' := by
 have HR0 := Aside0.mk hr0
 have HC0 := Aside0.mk hc0
 clear hr0 hc0
 have HB := Aside0.mk (Below.refl w.heap.size w)
 have H : (if (l0.length : Int) > 1048576 then (some true) else ((spec_DrawDeltaOf.f k l0).bind fun bt475 => ((impl_DeltaOf.f k bt475.1 bt475.2).bind fun t481 => ((spec_DeltaOf.f k bt475.1 bt475.2).bind fun t484 => ((laws_smDelta.f k t481 t484).bind fun t487 => (if t487 = true then ((impl_TextOk.f k bt475.1).bind fun t488 => (if t488 = true then ((impl_TextOk.f k bt475.2).bind fun t489 => (laws_FnDeltaOf.j0 k bt475.1 bt475.2 t481 (!t489))) else (laws_FnDeltaOf.j0 k bt475.1 bt475.2 t481 true))) else (laws_FnDeltaOf.j0 k bt475.1 bt475.2 t481 true))))))) = some r := h
 clear h
 by_cases c2 : (l0.length : Int) > 1048576
 · rw [if_pos c2] at H
   have c2b0 : decide (1048576 < (l0.length : Int)) = true := decide_eq_true c2
   have c2b1 : decide (1048576 < l0.length) = true := decide_eq_true (by omega)
   clear c2
   obtain rfl := Option.some.inj H
   go_enter Try.func4, Try.ntmps4
   go_wp2
   go_ret
   exact ⟨by first | rfl | (simp [errW_none, errW_some] <;> rfl) | (simp [*, errW_none, errW_some] <;> rfl), by repeat (first | (with_reducible first | exact HB.out | apply below_alloc | apply pw_below_drewN | apply below_drew1) | exact HB.out)⟩
 · rw [if_neg c2] at H
   have c2b0 : decide (1048576 < (l0.length : Int)) = false := decide_eq_false c2
   have c2b1 : decide (1048576 < l0.length) = false := decide_eq_false (by omega)
   clear c2
   replace H := Option.bind_eq_some_iff.mp H
   obtain ⟨⟨t475, t476⟩, A30, H⟩ := H
   replace H : ((impl_DeltaOf.f k t475 t476).bind fun t481 => ((spec_DeltaOf.f k t475 t476).bind fun t484 => ((laws_smDelta.f k t481 t484).bind fun t487 => (if t487 = true then ((impl_TextOk.f k t475).bind fun t488 => (if t488 = true then ((impl_TextOk.f k t476).bind fun t489 => (laws_FnDeltaOf.j0 k t475 t476 t481 (!t489))) else (laws_FnDeltaOf.j0 k t475 t476 t481 true))) else (laws_FnDeltaOf.j0 k t475 t476 t481 true))))) = some r := H
   have A3 := Aside0.mk A30
   clear A30
   replace H := Option.bind_eq_some_iff.mp H
   obtain ⟨t481, A40, H⟩ := H
   replace H : ((spec_DeltaOf.f k t475 t476).bind fun t484 => ((laws_smDelta.f k t481 t484).bind fun t487 => (if t487 = true then ((impl_TextOk.f k t475).bind fun t488 => (if t488 = true then ((impl_TextOk.f k t476).bind fun t489 => (laws_FnDeltaOf.j0 k t475 t476 t481 (!t489))) else (laws_FnDeltaOf.j0 k t475 t476 t481 true))) else (laws_FnDeltaOf.j0 k t475 t476 t481 true)))) = some r := H
   have A4 := Aside0.mk A40
   clear A40
   have HC5 := Aside0.mk H
   clear H
   go_enter Try.func4, Try.ntmps4
   go_upto_region 5 with (first | ((with_reducible refine gate_callee (f := 20) rfl ?_); refine goesL_ (some 15) rfl rfl Try.func20 (by kernel_rfl) rfl #[.slice A0 l0.length c0] rfl (by (try simp only [List.map_toArray, List.map_cons, List.map_nil]); first | done | rfl | (simp only [List.length_drop, List.length_take]; rfl)) ?_; (with_reducible refine (spec_DrawDeltaOf.calls k _ _ l0 t475 t476 _ ?side1 ?side2 A3.out).mono ?_); (case side1 => repeat (first | exact HR0.out | (with_reducible refine Kd.C_alloc ?_ _) | (with_reducible refine Kd.C_drewN ?_ _) | (with_reducible refine Kd.C_drew ?_))); (case side2 => exact HC0.out); rintro e w6 ⟨v477, v479, rfl, ho0, ho1, hb⟩; refine ⟨_, rfl, ?_⟩; have n0_ := Aside0.mk (Kd.R_lower ho0 (below_size (by repeat (first | (with_reducible first | exact HB.out | apply below_alloc | apply pw_below_drewN | apply below_drew1) | exact HB.out)))); have n1_ := Aside0.mk (Kd.R_lower ho1 (below_size (by repeat (first | (with_reducible first | exact HB.out | apply below_alloc | apply pw_below_drewN | apply below_drew1) | exact HB.out)))); have n2_ := Aside0.mk (below_step (by repeat (first | (with_reducible first | exact HB.out | apply below_alloc | apply pw_below_drewN | apply below_drew1) | exact HB.out)) hb); clear HB; have HO478 := n0_; have HO480 := n1_; have HB := n2_; clear n0_ n1_ n2_; (try clear hb); (try clear hb2); (try clear hk); (try clear hi); (try clear ho0); (try clear ho1); obtain ⟨Ao7, co7, eo7⟩ := Kd.R_slice HO478.out; subst eo7; obtain ⟨Ao8, co8, eo8⟩ := Kd.R_slice HO480.out; subst eo8) | ((with_reducible refine gate_callee (f := 21) rfl ?_); refine goesL_ (some 20) rfl rfl Try.func21 (by kernel_rfl) rfl #[.slice Ao7 t475.length co7, .slice Ao8 t476.length co8] rfl (by (try simp only [List.map_toArray, List.map_cons, List.map_nil]); first | done | rfl | (simp only [List.length_drop, List.length_take]; rfl)) ?_; (with_reducible refine (impl_DeltaOf.calls k _ _ t475 _ _ t476 t481 _ ?side1 ?side2 ?side3 ?side4 A4.out).mono ?_); (case side1 => repeat (first | exact (Kd.R_reads' HO478.out).2.2 | (with_reducible refine Kd.C_alloc ?_ _) | (with_reducible refine Kd.C_drewN ?_ _) | (with_reducible refine Kd.C_drew ?_))); (case side2 => exact (Kd.R_reads' HO478.out).2.1); (case side3 => repeat (first | exact (Kd.R_reads' HO480.out).2.2 | (with_reducible refine Kd.C_alloc ?_ _) | (with_reducible refine Kd.C_drewN ?_ _) | (with_reducible refine Kd.C_drew ?_))); (case side4 => exact (Kd.R_reads' HO480.out).2.1); rintro e w9 ⟨v482, rfl, ho0, hb⟩; refine ⟨_, rfl, ?_⟩; have n0_ := Aside0.mk (Kd.R_below (by (with_reducible repeat (first | apply Kd.R_alloc | apply Kd.R_drewN | apply Kd.R_drew)); exact HO478.out) hb); have n1_ := Aside0.mk (Kd.R_below (by (with_reducible repeat (first | apply Kd.R_alloc | apply Kd.R_drewN | apply Kd.R_drew)); exact HO480.out) hb); have n2_ := Aside0.mk (Kd.S_lower (Kd.S_new' (Kd.S_new' ho0 (Kd.R_lt (by (with_reducible repeat (first | apply Kd.R_alloc | apply Kd.R_drewN | apply Kd.R_drew)); exact HO478.out))) (Kd.R_lt (by (with_reducible repeat (first | apply Kd.R_alloc | apply Kd.R_drewN | apply Kd.R_drew)); exact HO480.out))) (below_size (by repeat (first | (with_reducible first | exact HB.out | apply below_alloc | apply pw_below_drewN | apply below_drew1) | exact HB.out)))); have n3_ := Aside0.mk (below_step (by repeat (first | (with_reducible first | exact HB.out | apply below_alloc | apply pw_below_drewN | apply below_drew1) | exact HB.out)) hb); clear HO478; clear HO480; clear HB; have HO478 := n0_; have HO480 := n1_; have HO483 := n2_; have HB := n3_; clear n0_ n1_ n2_ n3_; (try clear hb); (try clear hb2); (try clear hk); (try clear hi); (try clear ho0)))
   (try simp only [Act.put, List.setIfInBounds_toArray, List.set_cons_zero, List.set_cons_succ])
   go_cut [36] (fun v36 wc => ∃ (kq : Nat) (x36_4 : Bool), v36 = .bool x36_4 ∧ Aside0 (laws_FnDeltaOf.j0 kq t475 t476 t481 x36_4 = some r) ∧ Aside0 (kq ≤ k) ∧ Aside0 (Kd.R Kd.string 9 wc w.heap.size (fun k_ => some k_ ≠ ((.slice Ao8 t476.length co8) : Value).ownBlock) (.slice Ao7 t475.length co7) t475) ∧ Aside0 (Kd.R Kd.string 9 wc w.heap.size (fun k_ => some k_ ≠ ((.slice Ao7 t475.length co7) : Value).ownBlock) (.slice Ao8 t476.length co8) t476) ∧ Aside0 (Kd.S k39 39 wc w.heap.size (fun k_ => some k_ ≠ ((.slice Ao7 t475.length co7) : Value).ownBlock ∧ some k_ ≠ ((.slice Ao8 t476.length co8) : Value).ownBlock) v482 t481) ∧ Aside0 (Below w.heap.size w wc))
   case first =>
    have H := HC5.out
    clear HC5
    replace H := Option.bind_eq_some_iff.mp H
    obtain ⟨t484, A100, H⟩ := H
    replace H : ((laws_smDelta.f k t481 t484).bind fun t487 => (if t487 = true then ((impl_TextOk.f k t475).bind fun t488 => (if t488 = true then ((impl_TextOk.f k t476).bind fun t489 => (laws_FnDeltaOf.j0 k t475 t476 t481 (!t489))) else (laws_FnDeltaOf.j0 k t475 t476 t481 true))) else (laws_FnDeltaOf.j0 k t475 t476 t481 true))) = some r := H
    have A10 := Aside0.mk A100
    clear A100
    replace H := Option.bind_eq_some_iff.mp H
    obtain ⟨t487, A110, H⟩ := H
    replace H : (if t487 = true then ((impl_TextOk.f k t475).bind fun t488 => (if t488 = true then ((impl_TextOk.f k t476).bind fun t489 => (laws_FnDeltaOf.j0 k t475 t476 t481 (!t489))) else (laws_FnDeltaOf.j0 k t475 t476 t481 true))) else (laws_FnDeltaOf.j0 k t475 t476 t481 true)) = some r := H
    have A11 := Aside0.mk A110
    clear A110
    by_cases c12 : t487 = true
    · subst c12
      have H1 : ((impl_TextOk.f k t475).bind fun t488 => (if t488 = true then ((impl_TextOk.f k t476).bind fun t489 => (laws_FnDeltaOf.j0 k t475 t476 t481 (!t489))) else (laws_FnDeltaOf.j0 k t475 t476 t481 true))) = some r := by rw [if_pos rfl] at H; exact H
      clear H
      have H := H1
      clear H1
      replace H := Option.bind_eq_some_iff.mp H
      obtain ⟨t488, A130, H⟩ := H
      replace H : (if t488 = true then ((impl_TextOk.f k t476).bind fun t489 => (laws_FnDeltaOf.j0 k t475 t476 t481 (!t489))) else (laws_FnDeltaOf.j0 k t475 t476 t481 true)) = some r := H
      have A13 := Aside0.mk A130
      clear A130
      by_cases c14 : t488 = true
      · subst c14
        have H1 : ((impl_TextOk.f k t476).bind fun t489 => (laws_FnDeltaOf.j0 k t475 t476 t481 (!t489))) = some r := by rw [if_pos rfl] at H; exact H
        clear H
        have H := H1
        clear H1
        replace H := Option.bind_eq_some_iff.mp H
        obtain ⟨t489, A150, H⟩ := H
        replace H : (laws_FnDeltaOf.j0 k t475 t476 t481 (!t489)) = some r := H
        have A15 := Aside0.mk A150
        clear A150
        have H' := Aside0.mk H
        clear H
        go_wp2_with (first | ((with_reducible refine gate_callee (f := 23) rfl ?_); refine goesL_ (some 24) rfl rfl Try.func23 (by kernel_rfl) rfl #[.slice Ao7 t475.length co7, .slice Ao8 t476.length co8] rfl (by (try simp only [List.map_toArray, List.map_cons, List.map_nil]); first | done | rfl | (simp only [List.length_drop, List.length_take]; rfl)) ?_; (with_reducible refine (spec_DeltaOf.calls k _ _ t475 _ _ t476 t484 _ ?side1 ?side2 ?side3 ?side4 A10.out).mono ?_); (case side1 => repeat (first | exact (Kd.R_reads' HO478.out).2.2 | (with_reducible refine Kd.C_alloc ?_ _) | (with_reducible refine Kd.C_drewN ?_ _) | (with_reducible refine Kd.C_drew ?_))); (case side2 => exact (Kd.R_reads' HO478.out).2.1); (case side3 => repeat (first | exact (Kd.R_reads' HO480.out).2.2 | (with_reducible refine Kd.C_alloc ?_ _) | (with_reducible refine Kd.C_drewN ?_ _) | (with_reducible refine Kd.C_drew ?_))); (case side4 => exact (Kd.R_reads' HO480.out).2.1); rintro e w16 ⟨v485, rfl, ho0, hb⟩; refine ⟨_, rfl, ?_⟩; have n0_ := Aside0.mk (Kd.R_below (by (with_reducible repeat (first | apply Kd.R_alloc | apply Kd.R_drewN | apply Kd.R_drew)); exact HO478.out) hb); have n1_ := Aside0.mk (Kd.R_below (by (with_reducible repeat (first | apply Kd.R_alloc | apply Kd.R_drewN | apply Kd.R_drew)); exact HO480.out) hb); have n2_ := Aside0.mk (Kd.S_elder' (by (with_reducible repeat (first | apply Kd.S_alloc | apply Kd.S_drewN | apply Kd.S_drew)); exact HO483.out) (Kd.S_base ho0) hb); have n3_ := Aside0.mk (Kd.S_lower (Kd.S_new' (Kd.S_new' (Kd.S_new' ho0 (Kd.R_lt (by (with_reducible repeat (first | apply Kd.R_alloc | apply Kd.R_drewN | apply Kd.R_drew)); exact HO478.out))) (Kd.R_lt (by (with_reducible repeat (first | apply Kd.R_alloc | apply Kd.R_drewN | apply Kd.R_drew)); exact HO480.out))) (Kd.S_lt (by (with_reducible repeat (first | apply Kd.S_alloc | apply Kd.S_drewN | apply Kd.S_drew)); exact HO483.out))) (below_size (by repeat (first | (with_reducible first | exact HB.out | apply below_alloc | apply pw_below_drewN | apply below_drew1) | exact HB.out)))); have n4_ := Aside0.mk (below_step (by repeat (first | (with_reducible first | exact HB.out | apply below_alloc | apply pw_below_drewN | apply below_drew1) | exact HB.out)) hb); clear HO478; clear HO480; clear HO483; clear HB; have HO478 := n0_; have HO480 := n1_; have HO483 := n2_; have HO486 := n3_; have HB := n4_; clear n0_ n1_ n2_ n3_ n4_; (try clear hb); (try clear hb2); (try clear hk); (try clear hi); (try clear ho0); obtain ⟨Ao17, co17, eo17⟩ := Kd.S_slice HO483.out; subst eo17; obtain ⟨Ao18, co18, eo18⟩ := Kd.S_slice HO486.out; subst eo18) | ((with_reducible refine gate_callee (f := 22) rfl ?_); refine goesL_ (some 25) rfl rfl Try.func22 (by kernel_rfl) rfl #[.slice Ao17 t481.length co17, .slice Ao18 t484.length co18] rfl (by (try simp only [List.map_toArray, List.map_cons, List.map_nil]); first | done | rfl | (simp only [List.length_drop, List.length_take]; rfl)) ?_; (with_reducible refine (laws_smDelta.calls k _ _ t481 _ _ t484 true _ ?side1 ?side2 ?side3 ?side4 A11.out).mono ?_); (case side1 => repeat (first | exact (Kd.S_reads' HO483.out).2.2 | (with_reducible refine Kd.C_alloc ?_ _) | (with_reducible refine Kd.C_drewN ?_ _) | (with_reducible refine Kd.C_drew ?_))); (case side2 => exact (Kd.S_reads' HO483.out).2.1); (case side3 => repeat (first | exact (Kd.S_reads' HO486.out).2.2 | (with_reducible refine Kd.C_alloc ?_ _) | (with_reducible refine Kd.C_drewN ?_ _) | (with_reducible refine Kd.C_drew ?_))); (case side4 => exact (Kd.S_reads' HO486.out).2.1); rintro e w19 ⟨rfl, hb⟩; refine ⟨_, rfl, ?_⟩; have n0_ := Aside0.mk (Kd.R_below (by (with_reducible repeat (first | apply Kd.R_alloc | apply Kd.R_drewN | apply Kd.R_drew)); exact HO478.out) hb); have n1_ := Aside0.mk (Kd.R_below (by (with_reducible repeat (first | apply Kd.R_alloc | apply Kd.R_drewN | apply Kd.R_drew)); exact HO480.out) hb); have n2_ := Aside0.mk (Kd.S_below (by (with_reducible repeat (first | apply Kd.S_alloc | apply Kd.S_drewN | apply Kd.S_drew)); exact HO483.out) hb); have n3_ := Aside0.mk (Kd.S_below (by (with_reducible repeat (first | apply Kd.S_alloc | apply Kd.S_drewN | apply Kd.S_drew)); exact HO486.out) hb); have n4_ := Aside0.mk (below_step (by repeat (first | (with_reducible first | exact HB.out | apply below_alloc | apply pw_below_drewN | apply below_drew1) | exact HB.out)) hb); clear HO478; clear HO480; clear HO483; clear HO486; clear HB; have HO478 := n0_; have HO480 := n1_; have HO483 := n2_; have HO486 := n3_; have HB := n4_; clear n0_ n1_ n2_ n3_ n4_; (try clear hb); (try clear hb2); (try clear hk); (try clear hi)) | (go_at_call 24; (with_reducible refine (impl_TextOk.calls k _ _ t475 true _ ?side1 ?side2 A13.out).mono ?_); (case side1 => repeat (first | exact (Kd.R_reads' HO478.out).2.2 | (with_reducible refine Kd.C_alloc ?_ _) | (with_reducible refine Kd.C_drewN ?_ _) | (with_reducible refine Kd.C_drew ?_))); (case side2 => exact (Kd.R_reads' HO478.out).2.1); rintro e w' ⟨rfl, ⟨nd, rfl⟩⟩) | (go_at_call 24; (with_reducible refine (impl_TextOk.calls k _ _ t476 t489 _ ?side1 ?side2 A15.out).mono ?_); (case side1 => repeat (first | exact (Kd.R_reads' HO480.out).2.2 | (with_reducible refine Kd.C_alloc ?_ _) | (with_reducible refine Kd.C_drewN ?_ _) | (with_reducible refine Kd.C_drew ?_))); (case side2 => exact (Kd.R_reads' HO480.out).2.1); rintro e w' ⟨rfl, ⟨nd, rfl⟩⟩))
        go_meet
        case rel => exact ⟨_, (!t489), (by first | rfl | (simp; done) | (simp [*]; done)), H', ⟨by first | omega | exact Nat.le_refl _⟩, ⟨by (with_reducible repeat (first | apply Kd.R_alloc | apply Kd.R_drewN | apply Kd.R_drew)); exact HO478.out⟩, ⟨by (with_reducible repeat (first | apply Kd.R_alloc | apply Kd.R_drewN | apply Kd.R_drew)); exact HO480.out⟩, ⟨by (with_reducible repeat (first | apply Kd.S_alloc | apply Kd.S_drewN | apply Kd.S_drew)); exact Kd.S_mono HO483.out (fun _ hk => ⟨hk.1.1.2, hk.1.2⟩)⟩, ⟨by repeat (first | (with_reducible first | exact HB.out | apply below_alloc | apply pw_below_drewN | apply below_drew1) | exact HB.out)⟩⟩
      · replace c14 := Bool.eq_false_iff.mpr c14
        subst c14
        have H1 : (laws_FnDeltaOf.j0 k t475 t476 t481 true) = some r := by rw [if_neg (show ¬ (false = true) by decide)] at H; exact H
        clear H
        have H := H1
        clear H1
        have H' := Aside0.mk H
        clear H
        go_wp2_with (first | ((with_reducible refine gate_callee (f := 23) rfl ?_); refine goesL_ (some 24) rfl rfl Try.func23 (by kernel_rfl) rfl #[.slice Ao7 t475.length co7, .slice Ao8 t476.length co8] rfl (by (try simp only [List.map_toArray, List.map_cons, List.map_nil]); first | done | rfl | (simp only [List.length_drop, List.length_take]; rfl)) ?_; (with_reducible refine (spec_DeltaOf.calls k _ _ t475 _ _ t476 t484 _ ?side1 ?side2 ?side3 ?side4 A10.out).mono ?_); (case side1 => repeat (first | exact (Kd.R_reads' HO478.out).2.2 | (with_reducible refine Kd.C_alloc ?_ _) | (with_reducible refine Kd.C_drewN ?_ _) | (with_reducible refine Kd.C_drew ?_))); (case side2 => exact (Kd.R_reads' HO478.out).2.1); (case side3 => repeat (first | exact (Kd.R_reads' HO480.out).2.2 | (with_reducible refine Kd.C_alloc ?_ _) | (with_reducible refine Kd.C_drewN ?_ _) | (with_reducible refine Kd.C_drew ?_))); (case side4 => exact (Kd.R_reads' HO480.out).2.1); rintro e w20 ⟨v485, rfl, ho0, hb⟩; refine ⟨_, rfl, ?_⟩; have n0_ := Aside0.mk (Kd.R_below (by (with_reducible repeat (first | apply Kd.R_alloc | apply Kd.R_drewN | apply Kd.R_drew)); exact HO478.out) hb); have n1_ := Aside0.mk (Kd.R_below (by (with_reducible repeat (first | apply Kd.R_alloc | apply Kd.R_drewN | apply Kd.R_drew)); exact HO480.out) hb); have n2_ := Aside0.mk (Kd.S_elder' (by (with_reducible repeat (first | apply Kd.S_alloc | apply Kd.S_drewN | apply Kd.S_drew)); exact HO483.out) (Kd.S_base ho0) hb); have n3_ := Aside0.mk (Kd.S_lower (Kd.S_new' (Kd.S_new' (Kd.S_new' ho0 (Kd.R_lt (by (with_reducible repeat (first | apply Kd.R_alloc | apply Kd.R_drewN | apply Kd.R_drew)); exact HO478.out))) (Kd.R_lt (by (with_reducible repeat (first | apply Kd.R_alloc | apply Kd.R_drewN | apply Kd.R_drew)); exact HO480.out))) (Kd.S_lt (by (with_reducible repeat (first | apply Kd.S_alloc | apply Kd.S_drewN | apply Kd.S_drew)); exact HO483.out))) (below_size (by repeat (first | (with_reducible first | exact HB.out | apply below_alloc | apply pw_below_drewN | apply below_drew1) | exact HB.out)))); have n4_ := Aside0.mk (below_step (by repeat (first | (with_reducible first | exact HB.out | apply below_alloc | apply pw_below_drewN | apply below_drew1) | exact HB.out)) hb); clear HO478; clear HO480; clear HO483; clear HB; have HO478 := n0_; have HO480 := n1_; have HO483 := n2_; have HO486 := n3_; have HB := n4_; clear n0_ n1_ n2_ n3_ n4_; (try clear hb); (try clear hb2); (try clear hk); (try clear hi); (try clear ho0); obtain ⟨Ao21, co21, eo21⟩ := Kd.S_slice HO483.out; subst eo21; obtain ⟨Ao22, co22, eo22⟩ := Kd.S_slice HO486.out; subst eo22) | ((with_reducible refine gate_callee (f := 22) rfl ?_); refine goesL_ (some 25) rfl rfl Try.func22 (by kernel_rfl) rfl #[.slice Ao21 t481.length co21, .slice Ao22 t484.length co22] rfl (by (try simp only [List.map_toArray, List.map_cons, List.map_nil]); first | done | rfl | (simp only [List.length_drop, List.length_take]; rfl)) ?_; (with_reducible refine (laws_smDelta.calls k _ _ t481 _ _ t484 true _ ?side1 ?side2 ?side3 ?side4 A11.out).mono ?_); (case side1 => repeat (first | exact (Kd.S_reads' HO483.out).2.2 | (with_reducible refine Kd.C_alloc ?_ _) | (with_reducible refine Kd.C_drewN ?_ _) | (with_reducible refine Kd.C_drew ?_))); (case side2 => exact (Kd.S_reads' HO483.out).2.1); (case side3 => repeat (first | exact (Kd.S_reads' HO486.out).2.2 | (with_reducible refine Kd.C_alloc ?_ _) | (with_reducible refine Kd.C_drewN ?_ _) | (with_reducible refine Kd.C_drew ?_))); (case side4 => exact (Kd.S_reads' HO486.out).2.1); rintro e w23 ⟨rfl, hb⟩; refine ⟨_, rfl, ?_⟩; have n0_ := Aside0.mk (Kd.R_below (by (with_reducible repeat (first | apply Kd.R_alloc | apply Kd.R_drewN | apply Kd.R_drew)); exact HO478.out) hb); have n1_ := Aside0.mk (Kd.R_below (by (with_reducible repeat (first | apply Kd.R_alloc | apply Kd.R_drewN | apply Kd.R_drew)); exact HO480.out) hb); have n2_ := Aside0.mk (Kd.S_below (by (with_reducible repeat (first | apply Kd.S_alloc | apply Kd.S_drewN | apply Kd.S_drew)); exact HO483.out) hb); have n3_ := Aside0.mk (Kd.S_below (by (with_reducible repeat (first | apply Kd.S_alloc | apply Kd.S_drewN | apply Kd.S_drew)); exact HO486.out) hb); have n4_ := Aside0.mk (below_step (by repeat (first | (with_reducible first | exact HB.out | apply below_alloc | apply pw_below_drewN | apply below_drew1) | exact HB.out)) hb); clear HO478; clear HO480; clear HO483; clear HO486; clear HB; have HO478 := n0_; have HO480 := n1_; have HO483 := n2_; have HO486 := n3_; have HB := n4_; clear n0_ n1_ n2_ n3_ n4_; (try clear hb); (try clear hb2); (try clear hk); (try clear hi)) | (go_at_call 24; (with_reducible refine (impl_TextOk.calls k _ _ t475 false _ ?side1 ?side2 A13.out).mono ?_); (case side1 => repeat (first | exact (Kd.R_reads' HO478.out).2.2 | (with_reducible refine Kd.C_alloc ?_ _) | (with_reducible refine Kd.C_drewN ?_ _) | (with_reducible refine Kd.C_drew ?_))); (case side2 => exact (Kd.R_reads' HO478.out).2.1); rintro e w' ⟨rfl, ⟨nd, rfl⟩⟩))
        go_meet
        case rel => exact ⟨_, (true), (by first | rfl | (simp; done) | (simp [*]; done)), H', ⟨by first | omega | exact Nat.le_refl _⟩, ⟨by (with_reducible repeat (first | apply Kd.R_alloc | apply Kd.R_drewN | apply Kd.R_drew)); exact HO478.out⟩, ⟨by (with_reducible repeat (first | apply Kd.R_alloc | apply Kd.R_drewN | apply Kd.R_drew)); exact HO480.out⟩, ⟨by (with_reducible repeat (first | apply Kd.S_alloc | apply Kd.S_drewN | apply Kd.S_drew)); exact Kd.S_mono HO483.out (fun _ hk => ⟨hk.1.1.2, hk.1.2⟩)⟩, ⟨by repeat (first | (with_reducible first | exact HB.out | apply below_alloc | apply pw_below_drewN | apply below_drew1) | exact HB.out)⟩⟩
    · replace c12 := Bool.eq_false_iff.mpr c12
      subst c12
      have H1 : (laws_FnDeltaOf.j0 k t475 t476 t481 true) = some r := by rw [if_neg (show ¬ (false = true) by decide)] at H; exact H
      clear H
      have H := H1
      clear H1
      have H' := Aside0.mk H
      clear H
      go_wp2_with (first | ((with_reducible refine gate_callee (f := 23) rfl ?_); refine goesL_ (some 24) rfl rfl Try.func23 (by kernel_rfl) rfl #[.slice Ao7 t475.length co7, .slice Ao8 t476.length co8] rfl (by (try simp only [List.map_toArray, List.map_cons, List.map_nil]); first | done | rfl | (simp only [List.length_drop, List.length_take]; rfl)) ?_; (with_reducible refine (spec_DeltaOf.calls k _ _ t475 _ _ t476 t484 _ ?side1 ?side2 ?side3 ?side4 A10.out).mono ?_); (case side1 => repeat (first | exact (Kd.R_reads' HO478.out).2.2 | (with_reducible refine Kd.C_alloc ?_ _) | (with_reducible refine Kd.C_drewN ?_ _) | (with_reducible refine Kd.C_drew ?_))); (case side2 => exact (Kd.R_reads' HO478.out).2.1); (case side3 => repeat (first | exact (Kd.R_reads' HO480.out).2.2 | (with_reducible refine Kd.C_alloc ?_ _) | (with_reducible refine Kd.C_drewN ?_ _) | (with_reducible refine Kd.C_drew ?_))); (case side4 => exact (Kd.R_reads' HO480.out).2.1); rintro e w24 ⟨v485, rfl, ho0, hb⟩; refine ⟨_, rfl, ?_⟩; have n0_ := Aside0.mk (Kd.R_below (by (with_reducible repeat (first | apply Kd.R_alloc | apply Kd.R_drewN | apply Kd.R_drew)); exact HO478.out) hb); have n1_ := Aside0.mk (Kd.R_below (by (with_reducible repeat (first | apply Kd.R_alloc | apply Kd.R_drewN | apply Kd.R_drew)); exact HO480.out) hb); have n2_ := Aside0.mk (Kd.S_elder' (by (with_reducible repeat (first | apply Kd.S_alloc | apply Kd.S_drewN | apply Kd.S_drew)); exact HO483.out) (Kd.S_base ho0) hb); have n3_ := Aside0.mk (Kd.S_lower (Kd.S_new' (Kd.S_new' (Kd.S_new' ho0 (Kd.R_lt (by (with_reducible repeat (first | apply Kd.R_alloc | apply Kd.R_drewN | apply Kd.R_drew)); exact HO478.out))) (Kd.R_lt (by (with_reducible repeat (first | apply Kd.R_alloc | apply Kd.R_drewN | apply Kd.R_drew)); exact HO480.out))) (Kd.S_lt (by (with_reducible repeat (first | apply Kd.S_alloc | apply Kd.S_drewN | apply Kd.S_drew)); exact HO483.out))) (below_size (by repeat (first | (with_reducible first | exact HB.out | apply below_alloc | apply pw_below_drewN | apply below_drew1) | exact HB.out)))); have n4_ := Aside0.mk (below_step (by repeat (first | (with_reducible first | exact HB.out | apply below_alloc | apply pw_below_drewN | apply below_drew1) | exact HB.out)) hb); clear HO478; clear HO480; clear HO483; clear HB; have HO478 := n0_; have HO480 := n1_; have HO483 := n2_; have HO486 := n3_; have HB := n4_; clear n0_ n1_ n2_ n3_ n4_; (try clear hb); (try clear hb2); (try clear hk); (try clear hi); (try clear ho0); obtain ⟨Ao25, co25, eo25⟩ := Kd.S_slice HO483.out; subst eo25; obtain ⟨Ao26, co26, eo26⟩ := Kd.S_slice HO486.out; subst eo26) | ((with_reducible refine gate_callee (f := 22) rfl ?_); refine goesL_ (some 25) rfl rfl Try.func22 (by kernel_rfl) rfl #[.slice Ao25 t481.length co25, .slice Ao26 t484.length co26] rfl (by (try simp only [List.map_toArray, List.map_cons, List.map_nil]); first | done | rfl | (simp only [List.length_drop, List.length_take]; rfl)) ?_; (with_reducible refine (laws_smDelta.calls k _ _ t481 _ _ t484 false _ ?side1 ?side2 ?side3 ?side4 A11.out).mono ?_); (case side1 => repeat (first | exact (Kd.S_reads' HO483.out).2.2 | (with_reducible refine Kd.C_alloc ?_ _) | (with_reducible refine Kd.C_drewN ?_ _) | (with_reducible refine Kd.C_drew ?_))); (case side2 => exact (Kd.S_reads' HO483.out).2.1); (case side3 => repeat (first | exact (Kd.S_reads' HO486.out).2.2 | (with_reducible refine Kd.C_alloc ?_ _) | (with_reducible refine Kd.C_drewN ?_ _) | (with_reducible refine Kd.C_drew ?_))); (case side4 => exact (Kd.S_reads' HO486.out).2.1); rintro e w27 ⟨rfl, hb⟩; refine ⟨_, rfl, ?_⟩; have n0_ := Aside0.mk (Kd.R_below (by (with_reducible repeat (first | apply Kd.R_alloc | apply Kd.R_drewN | apply Kd.R_drew)); exact HO478.out) hb); have n1_ := Aside0.mk (Kd.R_below (by (with_reducible repeat (first | apply Kd.R_alloc | apply Kd.R_drewN | apply Kd.R_drew)); exact HO480.out) hb); have n2_ := Aside0.mk (Kd.S_below (by (with_reducible repeat (first | apply Kd.S_alloc | apply Kd.S_drewN | apply Kd.S_drew)); exact HO483.out) hb); have n3_ := Aside0.mk (Kd.S_below (by (with_reducible repeat (first | apply Kd.S_alloc | apply Kd.S_drewN | apply Kd.S_drew)); exact HO486.out) hb); have n4_ := Aside0.mk (below_step (by repeat (first | (with_reducible first | exact HB.out | apply below_alloc | apply pw_below_drewN | apply below_drew1) | exact HB.out)) hb); clear HO478; clear HO480; clear HO483; clear HO486; clear HB; have HO478 := n0_; have HO480 := n1_; have HO483 := n2_; have HO486 := n3_; have HB := n4_; clear n0_ n1_ n2_ n3_ n4_; (try clear hb); (try clear hb2); (try clear hk); (try clear hi)))
      go_meet
      case rel => exact ⟨_, (true), (by first | rfl | (simp; done) | (simp [*]; done)), H', ⟨by first | omega | exact Nat.le_refl _⟩, ⟨by (with_reducible repeat (first | apply Kd.R_alloc | apply Kd.R_drewN | apply Kd.R_drew)); exact HO478.out⟩, ⟨by (with_reducible repeat (first | apply Kd.R_alloc | apply Kd.R_drewN | apply Kd.R_drew)); exact HO480.out⟩, ⟨by (with_reducible repeat (first | apply Kd.S_alloc | apply Kd.S_drewN | apply Kd.S_drew)); exact Kd.S_mono HO483.out (fun _ hk => ⟨hk.1.1.2, hk.1.2⟩)⟩, ⟨by repeat (first | (with_reducible first | exact HB.out | apply below_alloc | apply pw_below_drewN | apply below_drew1) | exact HB.out)⟩⟩
   case rest =>
    clear HC5
    try clear c1
    try clear c2
    try clear c2b0
    try clear c2b1
    try clear p2
    try clear c4
    try clear c12
    try clear c14
    try clear c20
    try clear c21
    try clear c22
    try clear c23
    obtain ⟨kq, x36_4, rfl, HA, HJ4, HO_3, HO_4, HO_5, HB⟩ := hcut
    cases kq with
    | zero => exact absurd HA.out (by simp [laws_FnDeltaOf.j0])
    | succ kj4 =>
     have H := HA.out
     clear HA
     simp only [laws_FnDeltaOf.j0] at H
     by_cases c28 : x36_4 = true
     · subst c28
       have H1 : ((spec_DeltaOf.f kj4 t475 t476).bind fun t490 => ((laws_smDelta.f kj4 t481 t490).bind fun t493 => (some t493))) = some r := by rw [if_pos rfl] at H; exact H
       clear H
       have H := H1
       clear H1
       replace H := Option.bind_eq_some_iff.mp H
       obtain ⟨t490, A290, H⟩ := H
       replace H : ((laws_smDelta.f kj4 t481 t490).bind fun t493 => (some t493)) = some r := H
       have A29 := Aside0.mk A290
       clear A290
       replace H := Option.bind_eq_some_iff.mp H
       obtain ⟨t493, A300, H⟩ := H
       replace H : (some t493) = some r := H
       have A30 := Aside0.mk A300
       clear A300
       obtain rfl := Option.some.inj H
       go_wp2_with (first | ((with_reducible refine gate_callee (f := 23) rfl ?_); refine goesL_ (some 40) rfl rfl Try.func23 (by kernel_rfl) rfl #[.slice Ao7 t475.length co7, .slice Ao8 t476.length co8] rfl (by (try simp only [List.map_toArray, List.map_cons, List.map_nil]); first | done | rfl | (simp only [List.length_drop, List.length_take]; rfl)) ?_; (with_reducible refine (spec_DeltaOf.calls kj4 _ _ t475 _ _ t476 t490 _ ?side1 ?side2 ?side3 ?side4 A29.out).mono ?_); (case side1 => repeat (first | exact (Kd.R_reads' HO_3.out).2.2 | (with_reducible refine Kd.C_alloc ?_ _) | (with_reducible refine Kd.C_drewN ?_ _) | (with_reducible refine Kd.C_drew ?_))); (case side2 => exact (Kd.R_reads' HO_3.out).2.1); (case side3 => repeat (first | exact (Kd.R_reads' HO_4.out).2.2 | (with_reducible refine Kd.C_alloc ?_ _) | (with_reducible refine Kd.C_drewN ?_ _) | (with_reducible refine Kd.C_drew ?_))); (case side4 => exact (Kd.R_reads' HO_4.out).2.1); rintro e w31 ⟨v491, rfl, ho0, hb⟩; refine ⟨_, rfl, ?_⟩; have n0_ := Aside0.mk (Kd.R_below (by (with_reducible repeat (first | apply Kd.R_alloc | apply Kd.R_drewN | apply Kd.R_drew)); exact HO_3.out) hb); have n1_ := Aside0.mk (Kd.R_below (by (with_reducible repeat (first | apply Kd.R_alloc | apply Kd.R_drewN | apply Kd.R_drew)); exact HO_4.out) hb); have n2_ := Aside0.mk (Kd.S_elder' (by (with_reducible repeat (first | apply Kd.S_alloc | apply Kd.S_drewN | apply Kd.S_drew)); exact HO_5.out) (Kd.S_base ho0) hb); have n3_ := Aside0.mk (Kd.S_lower (Kd.S_new' (Kd.S_new' (Kd.S_new' ho0 (Kd.R_lt (by (with_reducible repeat (first | apply Kd.R_alloc | apply Kd.R_drewN | apply Kd.R_drew)); exact HO_3.out))) (Kd.R_lt (by (with_reducible repeat (first | apply Kd.R_alloc | apply Kd.R_drewN | apply Kd.R_drew)); exact HO_4.out))) (Kd.S_lt (by (with_reducible repeat (first | apply Kd.S_alloc | apply Kd.S_drewN | apply Kd.S_drew)); exact HO_5.out))) (below_size (by repeat (first | (with_reducible first | exact HB.out | apply below_alloc | apply pw_below_drewN | apply below_drew1) | exact HB.out)))); have n4_ := Aside0.mk (below_step (by repeat (first | (with_reducible first | exact HB.out | apply below_alloc | apply pw_below_drewN | apply below_drew1) | exact HB.out)) hb); clear HO_3; clear HO_4; clear HO_5; clear HB; have HO_3 := n0_; have HO_4 := n1_; have HO_5 := n2_; have HO492 := n3_; have HB := n4_; clear n0_ n1_ n2_ n3_ n4_; (try clear hb); (try clear hb2); (try clear hk); (try clear hi); (try clear ho0); obtain ⟨Ao32, co32, eo32⟩ := Kd.S_slice HO_5.out; subst eo32; obtain ⟨Ao33, co33, eo33⟩ := Kd.S_slice HO492.out; subst eo33) | ((with_reducible refine gate_callee (f := 22) rfl ?_); refine goesL_ (some 41) rfl rfl Try.func22 (by kernel_rfl) rfl #[.slice Ao32 t481.length co32, .slice Ao33 t490.length co33] rfl (by (try simp only [List.map_toArray, List.map_cons, List.map_nil]); first | done | rfl | (simp only [List.length_drop, List.length_take]; rfl)) ?_; (with_reducible refine (laws_smDelta.calls kj4 _ _ t481 _ _ t490 t493 _ ?side1 ?side2 ?side3 ?side4 A30.out).mono ?_); (case side1 => repeat (first | exact (Kd.S_reads' HO_5.out).2.2 | (with_reducible refine Kd.C_alloc ?_ _) | (with_reducible refine Kd.C_drewN ?_ _) | (with_reducible refine Kd.C_drew ?_))); (case side2 => exact (Kd.S_reads' HO_5.out).2.1); (case side3 => repeat (first | exact (Kd.S_reads' HO492.out).2.2 | (with_reducible refine Kd.C_alloc ?_ _) | (with_reducible refine Kd.C_drewN ?_ _) | (with_reducible refine Kd.C_drew ?_))); (case side4 => exact (Kd.S_reads' HO492.out).2.1); rintro e w34 ⟨rfl, hb⟩; refine ⟨_, rfl, ?_⟩; have n0_ := Aside0.mk (Kd.R_below (by (with_reducible repeat (first | apply Kd.R_alloc | apply Kd.R_drewN | apply Kd.R_drew)); exact HO_3.out) hb); have n1_ := Aside0.mk (Kd.R_below (by (with_reducible repeat (first | apply Kd.R_alloc | apply Kd.R_drewN | apply Kd.R_drew)); exact HO_4.out) hb); have n2_ := Aside0.mk (Kd.S_below (by (with_reducible repeat (first | apply Kd.S_alloc | apply Kd.S_drewN | apply Kd.S_drew)); exact HO_5.out) hb); have n3_ := Aside0.mk (Kd.S_below (by (with_reducible repeat (first | apply Kd.S_alloc | apply Kd.S_drewN | apply Kd.S_drew)); exact HO492.out) hb); have n4_ := Aside0.mk (below_step (by repeat (first | (with_reducible first | exact HB.out | apply below_alloc | apply pw_below_drewN | apply below_drew1) | exact HB.out)) hb); clear HO_3; clear HO_4; clear HO_5; clear HO492; clear HB; have HO_3 := n0_; have HO_4 := n1_; have HO_5 := n2_; have HO492 := n3_; have HB := n4_; clear n0_ n1_ n2_ n3_ n4_; (try clear hb); (try clear hb2); (try clear hk); (try clear hi)))
       go_ret
       exact ⟨by first | rfl | (simp [errW_none, errW_some] <;> rfl) | (simp [*, errW_none, errW_some] <;> rfl), by repeat (first | (with_reducible first | exact HB.out | apply below_alloc | apply pw_below_drewN | apply below_drew1) | exact HB.out)⟩
     · replace c28 := Bool.eq_false_iff.mpr c28
       subst c28
       have H1 : ((impl_DeltaDo.f kj4 t475 t481).bind fun bt494 => ((impl_DeltaOf.f kj4 t476 t476).bind fun t498 => ((impl_DeltaOf.f kj4 ([] : List ByteArray) t476).bind fun t501 => (if bt494.2 = true then ((laws_smTexts.f kj4 bt494.1 t476).bind fun t504 => (if t504 = true then ((impl_DeltaOk.f kj4 t481).bind fun t505 => (if t505 = true then (if (t498.length : Int) ≤ 1 then (if (t501.length : Int) ≤ 1 then (if (t476.length : Int) = 0 then (some true) else (if 0 < (t498.length : Int) then (if ((rd_T39 t498 0).f1) = (t476.length : Int) then (if 0 < (t501.length : Int) then ((laws_smTexts.f kj4 ((rd_T39 t501 0).f2) t476).bind fun t508 => (some t508)) else (none)) else (some false)) else (none))) else (some false)) else (some false)) else (some false))) else (some false))) else (some false))))) = some r := by rw [if_neg (show ¬ (false = true) by decide)] at H; exact H
       clear H
       have H := H1
       clear H1
       replace H := Option.bind_eq_some_iff.mp H
       obtain ⟨⟨t494, t495⟩, A350, H⟩ := H
       replace H : ((impl_DeltaOf.f kj4 t476 t476).bind fun t498 => ((impl_DeltaOf.f kj4 ([] : List ByteArray) t476).bind fun t501 => (if t495 = true then ((laws_smTexts.f kj4 t494 t476).bind fun t504 => (if t504 = true then ((impl_DeltaOk.f kj4 t481).bind fun t505 => (if t505 = true then (if (t498.length : Int) ≤ 1 then (if (t501.length : Int) ≤ 1 then (if (t476.length : Int) = 0 then (some true) else (if 0 < (t498.length : Int) then (if ((rd_T39 t498 0).f1) = (t476.length : Int) then (if 0 < (t501.length : Int) then ((laws_smTexts.f kj4 ((rd_T39 t501 0).f2) t476).bind fun t508 => (some t508)) else (none)) else (some false)) else (none))) else (some false)) else (some false)) else (some false))) else (some false))) else (some false)))) = some r := H
       have A35 := Aside0.mk A350
       clear A350
       replace H := Option.bind_eq_some_iff.mp H
       obtain ⟨t498, A360, H⟩ := H
       replace H : ((impl_DeltaOf.f kj4 ([] : List ByteArray) t476).bind fun t501 => (if t495 = true then ((laws_smTexts.f kj4 t494 t476).bind fun t504 => (if t504 = true then ((impl_DeltaOk.f kj4 t481).bind fun t505 => (if t505 = true then (if (t498.length : Int) ≤ 1 then (if (t501.length : Int) ≤ 1 then (if (t476.length : Int) = 0 then (some true) else (if 0 < (t498.length : Int) then (if ((rd_T39 t498 0).f1) = (t476.length : Int) then (if 0 < (t501.length : Int) then ((laws_smTexts.f kj4 ((rd_T39 t501 0).f2) t476).bind fun t508 => (some t508)) else (none)) else (some false)) else (none))) else (some false)) else (some false)) else (some false))) else (some false))) else (some false))) = some r := H
       have A36 := Aside0.mk A360
       clear A360
       replace H := Option.bind_eq_some_iff.mp H
       obtain ⟨t501, A370, H⟩ := H
       replace H : (if t495 = true then ((laws_smTexts.f kj4 t494 t476).bind fun t504 => (if t504 = true then ((impl_DeltaOk.f kj4 t481).bind fun t505 => (if t505 = true then (if (t498.length : Int) ≤ 1 then (if (t501.length : Int) ≤ 1 then (if (t476.length : Int) = 0 then (some true) else (if 0 < (t498.length : Int) then (if ((rd_T39 t498 0).f1) = (t476.length : Int) then (if 0 < (t501.length : Int) then ((laws_smTexts.f kj4 ((rd_T39 t501 0).f2) t476).bind fun t508 => (some t508)) else (none)) else (some false)) else (none))) else (some false)) else (some false)) else (some false))) else (some false))) else (some false)) = some r := H
       have A37 := Aside0.mk A370
       clear A370
       by_cases c38 : t495 = true
       · subst c38
         have H1 : ((laws_smTexts.f kj4 t494 t476).bind fun t504 => (if t504 = true then ((impl_DeltaOk.f kj4 t481).bind fun t505 => (if t505 = true then (if (t498.length : Int) ≤ 1 then (if (t501.length : Int) ≤ 1 then (if (t476.length : Int) = 0 then (some true) else (if 0 < (t498.length : Int) then (if ((rd_T39 t498 0).f1) = (t476.length : Int) then (if 0 < (t501.length : Int) then ((laws_smTexts.f kj4 ((rd_T39 t501 0).f2) t476).bind fun t508 => (some t508)) else (none)) else (some false)) else (none))) else (some false)) else (some false)) else (some false))) else (some false))) = some r := by rw [if_pos rfl] at H; exact H
         clear H
         have H := H1
         clear H1
         replace H := Option.bind_eq_some_iff.mp H
         obtain ⟨t504, A390, H⟩ := H
         replace H : (if t504 = true then ((impl_DeltaOk.f kj4 t481).bind fun t505 => (if t505 = true then (if (t498.length : Int) ≤ 1 then (if (t501.length : Int) ≤ 1 then (if (t476.length : Int) = 0 then (some true) else (if 0 < (t498.length : Int) then (if ((rd_T39 t498 0).f1) = (t476.length : Int) then (if 0 < (t501.length : Int) then ((laws_smTexts.f kj4 ((rd_T39 t501 0).f2) t476).bind fun t508 => (some t508)) else (none)) else (some false)) else (none))) else (some false)) else (some false)) else (some false))) else (some false)) = some r := H
         have A39 := Aside0.mk A390
         clear A390
         by_cases c40 : t504 = true
         · subst c40
           have H1 : ((impl_DeltaOk.f kj4 t481).bind fun t505 => (if t505 = true then (if (t498.length : Int) ≤ 1 then (if (t501.length : Int) ≤ 1 then (if (t476.length : Int) = 0 then (some true) else (if 0 < (t498.length : Int) then (if ((rd_T39 t498 0).f1) = (t476.length : Int) then (if 0 < (t501.length : Int) then ((laws_smTexts.f kj4 ((rd_T39 t501 0).f2) t476).bind fun t508 => (some t508)) else (none)) else (some false)) else (none))) else (some false)) else (some false)) else (some false))) = some r := by rw [if_pos rfl] at H; exact H
           clear H
           have H := H1
           clear H1
           replace H := Option.bind_eq_some_iff.mp H
           obtain ⟨t505, A410, H⟩ := H
           replace H : (if t505 = true then (if (t498.length : Int) ≤ 1 then (if (t501.length : Int) ≤ 1 then (if (t476.length : Int) = 0 then (some true) else (if 0 < (t498.length : Int) then (if ((rd_T39 t498 0).f1) = (t476.length : Int) then (if 0 < (t501.length : Int) then ((laws_smTexts.f kj4 ((rd_T39 t501 0).f2) t476).bind fun t508 => (some t508)) else (none)) else (some false)) else (none))) else (some false)) else (some false)) else (some false)) = some r := H
           have A41 := Aside0.mk A410
           clear A410
           by_cases c42 : t505 = true
           · subst c42
             have H1 : (if (t498.length : Int) ≤ 1 then (if (t501.length : Int) ≤ 1 then (if (t476.length : Int) = 0 then (some true) else (if 0 < (t498.length : Int) then (if ((rd_T39 t498 0).f1) = (t476.length : Int) then (if 0 < (t501.length : Int) then ((laws_smTexts.f kj4 ((rd_T39 t501 0).f2) t476).bind fun t508 => (some t508)) else (none)) else (some false)) else (none))) else (some false)) else (some false)) = some r := by rw [if_pos rfl] at H; exact H
             clear H
             have H := H1
             clear H1
             by_cases c43 : (t498.length : Int) ≤ 1
             · rw [if_pos c43] at H
               have c43b0 : decide ((t498.length : Int) ≤ 1) = true := decide_eq_true c43
               have c43b1 : decide (t498.length ≤ 1) = true := decide_eq_true (by omega)
               clear c43
               by_cases c44 : (t501.length : Int) ≤ 1
               · rw [if_pos c44] at H
                 have c44b0 : decide ((t501.length : Int) ≤ 1) = true := decide_eq_true c44
                 have c44b1 : decide (t501.length ≤ 1) = true := decide_eq_true (by omega)
                 clear c44
                 by_cases c45 : (t476.length : Int) = 0
                 · rw [if_pos c45] at H
                   have c45b0 : ((t476.length : Int) == 0) = true := beq_iff_eq.mpr c45
                   have c45b1 : ((t476.length : Int) != 0) = false := bne_eq_false_iff_eq.mpr c45
                   clear c45
                   obtain rfl := Option.some.inj H
                   obtain ⟨Ao46, co46, eo46⟩ := Kd.S_slice HO_5.out
                   subst eo46
                   go_wp2_with (first | ((with_reducible refine gate_callee (f := 25) rfl ?_); refine goesL_ (some 45) rfl rfl Try.func25 (by kernel_rfl) rfl #[.slice Ao7 t475.length co7, .slice Ao46 t481.length co46] rfl (by (try simp only [List.map_toArray, List.map_cons, List.map_nil]); first | done | rfl | (simp only [List.length_drop, List.length_take]; rfl)) ?_; (with_reducible refine (impl_DeltaDo.calls kj4 _ _ t475 _ _ t481 t494 true _ ?side1 ?side2 ?side3 ?side4 A35.out).mono ?_); (case side1 => repeat (first | exact (Kd.R_reads' HO_3.out).2.2 | (with_reducible refine Kd.C_alloc ?_ _) | (with_reducible refine Kd.C_drewN ?_ _) | (with_reducible refine Kd.C_drew ?_))); (case side2 => exact (Kd.R_reads' HO_3.out).2.1); (case side3 => repeat (first | exact (Kd.S_reads' HO_5.out).2.2 | (with_reducible refine Kd.C_alloc ?_ _) | (with_reducible refine Kd.C_drewN ?_ _) | (with_reducible refine Kd.C_drew ?_))); (case side4 => exact (Kd.S_reads' HO_5.out).2.1); rintro e w47 ⟨v496, rfl, ho0, hb⟩; refine ⟨_, rfl, ?_⟩; have n0_ := Aside0.mk (Kd.R_elder' (by (with_reducible repeat (first | apply Kd.R_alloc | apply Kd.R_drewN | apply Kd.R_drew)); exact HO_3.out) (Kd.R_base ho0) hb); have n1_ := Aside0.mk (Kd.R_elder' (by (with_reducible repeat (first | apply Kd.R_alloc | apply Kd.R_drewN | apply Kd.R_drew)); exact HO_4.out) (Kd.R_base ho0) hb); have n2_ := Aside0.mk (Kd.S_elder' (by (with_reducible repeat (first | apply Kd.S_alloc | apply Kd.S_drewN | apply Kd.S_drew)); exact HO_5.out) (Kd.R_base ho0) hb); have n3_ := Aside0.mk (Kd.R_lower (Kd.R_new' (Kd.R_new' ho0 (Kd.R_lt (by (with_reducible repeat (first | apply Kd.R_alloc | apply Kd.R_drewN | apply Kd.R_drew)); exact HO_3.out))) (Kd.R_lt (by (with_reducible repeat (first | apply Kd.R_alloc | apply Kd.R_drewN | apply Kd.R_drew)); exact HO_4.out))) (below_size (by repeat (first | (with_reducible first | exact HB.out | apply below_alloc | apply pw_below_drewN | apply below_drew1) | exact HB.out)))); have n4_ := Aside0.mk (below_step (by repeat (first | (with_reducible first | exact HB.out | apply below_alloc | apply pw_below_drewN | apply below_drew1) | exact HB.out)) hb); clear HO_3; clear HO_4; clear HO_5; clear HB; have HO_3 := n0_; have HO_4 := n1_; have HO_5 := n2_; have HO497 := n3_; have HB := n4_; clear n0_ n1_ n2_ n3_ n4_; (try clear hb); (try clear hb2); (try clear hk); (try clear hi); (try clear ho0)) | ((with_reducible refine gate_callee (f := 21) rfl ?_); refine goesL_ (some 50) rfl rfl Try.func21 (by kernel_rfl) rfl #[.slice Ao8 t476.length co8, .slice Ao8 t476.length co8] rfl (by (try simp only [List.map_toArray, List.map_cons, List.map_nil]); first | done | rfl | (simp only [List.length_drop, List.length_take]; rfl)) ?_; (with_reducible refine (impl_DeltaOf.calls kj4 _ _ t476 _ _ t476 t498 _ ?side1 ?side2 ?side3 ?side4 A36.out).mono ?_); (case side1 => repeat (first | exact (Kd.R_reads' HO_4.out).2.2 | (with_reducible refine Kd.C_alloc ?_ _) | (with_reducible refine Kd.C_drewN ?_ _) | (with_reducible refine Kd.C_drew ?_))); (case side2 => exact (Kd.R_reads' HO_4.out).2.1); (case side3 => repeat (first | exact (Kd.R_reads' HO_4.out).2.2 | (with_reducible refine Kd.C_alloc ?_ _) | (with_reducible refine Kd.C_drewN ?_ _) | (with_reducible refine Kd.C_drew ?_))); (case side4 => exact (Kd.R_reads' HO_4.out).2.1); rintro e w48 ⟨v499, rfl, ho0, hb⟩; refine ⟨_, rfl, ?_⟩; have n0_ := Aside0.mk (Kd.R_below (by (with_reducible repeat (first | apply Kd.R_alloc | apply Kd.R_drewN | apply Kd.R_drew)); exact HO_3.out) hb); have n1_ := Aside0.mk (Kd.R_below (by (with_reducible repeat (first | apply Kd.R_alloc | apply Kd.R_drewN | apply Kd.R_drew)); exact HO_4.out) hb); have n2_ := Aside0.mk (Kd.S_elder' (by (with_reducible repeat (first | apply Kd.S_alloc | apply Kd.S_drewN | apply Kd.S_drew)); exact HO_5.out) (Kd.S_base ho0) hb); have n3_ := Aside0.mk (Kd.R_below (by (with_reducible repeat (first | apply Kd.R_alloc | apply Kd.R_drewN | apply Kd.R_drew)); exact HO497.out) hb); have n4_ := Aside0.mk (Kd.S_lower (Kd.S_new' (Kd.S_new' (Kd.S_new' (Kd.S_new' ho0 (Kd.R_lt (by (with_reducible repeat (first | apply Kd.R_alloc | apply Kd.R_drewN | apply Kd.R_drew)); exact HO_3.out))) (Kd.R_lt (by (with_reducible repeat (first | apply Kd.R_alloc | apply Kd.R_drewN | apply Kd.R_drew)); exact HO_4.out))) (Kd.S_lt (by (with_reducible repeat (first | apply Kd.S_alloc | apply Kd.S_drewN | apply Kd.S_drew)); exact HO_5.out))) (Kd.R_lt (by (with_reducible repeat (first | apply Kd.R_alloc | apply Kd.R_drewN | apply Kd.R_drew)); exact HO497.out))) (below_size (by repeat (first | (with_reducible first | exact HB.out | apply below_alloc | apply pw_below_drewN | apply below_drew1) | exact HB.out)))); have n5_ := Aside0.mk (below_step (by repeat (first | (with_reducible first | exact HB.out | apply below_alloc | apply pw_below_drewN | apply below_drew1) | exact HB.out)) hb); clear HO_3; clear HO_4; clear HO_5; clear HO497; clear HB; have HO_3 := n0_; have HO_4 := n1_; have HO_5 := n2_; have HO497 := n3_; have HO500 := n4_; have HB := n5_; clear n0_ n1_ n2_ n3_ n4_ n5_; (try clear hb); (try clear hb2); (try clear hk); (try clear hi); (try clear ho0)) | ((with_reducible refine gate_callee (f := 21) rfl ?_); refine goesL_ (some 52) rfl rfl Try.func21 (by kernel_rfl) rfl #[.slice none 0 0, .slice Ao8 t476.length co8] rfl (by (try simp only [List.map_toArray, List.map_cons, List.map_nil]); first | done | rfl | (simp only [List.length_drop, List.length_take]; rfl)) ?_; (refine (impl_DeltaOf.calls kj4 _ _ ([] : List ByteArray) _ _ t476 t501 _ ?side1 ?side2 ?side3 ?side4 A37.out).mono ?_); (case side1 => exact Kd.C_nil _ _); (case side2 => exact Nat.le_refl _); (case side3 => repeat (first | exact (Kd.R_reads' HO_4.out).2.2 | (with_reducible refine Kd.C_alloc ?_ _) | (with_reducible refine Kd.C_drewN ?_ _) | (with_reducible refine Kd.C_drew ?_))); (case side4 => exact (Kd.R_reads' HO_4.out).2.1); rintro e w49 ⟨v502, rfl, ho0, hb⟩; refine ⟨_, rfl, ?_⟩; have n0_ := Aside0.mk (Kd.R_below (by (with_reducible repeat (first | apply Kd.R_alloc | apply Kd.R_drewN | apply Kd.R_drew)); exact HO_3.out) hb); have n1_ := Aside0.mk (Kd.R_below (by (with_reducible repeat (first | apply Kd.R_alloc | apply Kd.R_drewN | apply Kd.R_drew)); exact HO_4.out) hb); have n2_ := Aside0.mk (Kd.S_elder' (by (with_reducible repeat (first | apply Kd.S_alloc | apply Kd.S_drewN | apply Kd.S_drew)); exact HO_5.out) (Kd.S_base ho0) hb); have n3_ := Aside0.mk (Kd.R_below (by (with_reducible repeat (first | apply Kd.R_alloc | apply Kd.R_drewN | apply Kd.R_drew)); exact HO497.out) hb); have n4_ := Aside0.mk (Kd.S_elder' (by (with_reducible repeat (first | apply Kd.S_alloc | apply Kd.S_drewN | apply Kd.S_drew)); exact HO500.out) (Kd.S_base ho0) hb); have n5_ := Aside0.mk (Kd.S_lower (Kd.S_new' (Kd.S_new' (Kd.S_new' (Kd.S_new' (Kd.S_new' ho0 (Kd.R_lt (by (with_reducible repeat (first | apply Kd.R_alloc | apply Kd.R_drewN | apply Kd.R_drew)); exact HO_3.out))) (Kd.R_lt (by (with_reducible repeat (first | apply Kd.R_alloc | apply Kd.R_drewN | apply Kd.R_drew)); exact HO_4.out))) (Kd.S_lt (by (with_reducible repeat (first | apply Kd.S_alloc | apply Kd.S_drewN | apply Kd.S_drew)); exact HO_5.out))) (Kd.R_lt (by (with_reducible repeat (first | apply Kd.R_alloc | apply Kd.R_drewN | apply Kd.R_drew)); exact HO497.out))) (Kd.S_lt (by (with_reducible repeat (first | apply Kd.S_alloc | apply Kd.S_drewN | apply Kd.S_drew)); exact HO500.out))) (below_size (by repeat (first | (with_reducible first | exact HB.out | apply below_alloc | apply pw_below_drewN | apply below_drew1) | exact HB.out)))); have n6_ := Aside0.mk (below_step (by repeat (first | (with_reducible first | exact HB.out | apply below_alloc | apply pw_below_drewN | apply below_drew1) | exact HB.out)) hb); clear HO_3; clear HO_4; clear HO_5; clear HO497; clear HO500; clear HB; have HO_3 := n0_; have HO_4 := n1_; have HO_5 := n2_; have HO497 := n3_; have HO500 := n4_; have HO503 := n5_; have HB := n6_; clear n0_ n1_ n2_ n3_ n4_ n5_ n6_; (try clear hb); (try clear hb2); (try clear hk); (try clear hi); (try clear ho0); obtain ⟨Ao50, co50, eo50⟩ := Kd.R_slice HO497.out; subst eo50) | (go_at_call 26; (with_reducible refine (laws_smTexts.calls kj4 _ _ t494 _ _ t476 true _ ?side1 ?side2 ?side3 ?side4 A39.out).mono ?_); (case side1 => repeat (first | exact (Kd.R_reads' HO497.out).2.2 | (with_reducible refine Kd.C_alloc ?_ _) | (with_reducible refine Kd.C_drewN ?_ _) | (with_reducible refine Kd.C_drew ?_))); (case side2 => exact (Kd.R_reads' HO497.out).2.1); (case side3 => repeat (first | exact (Kd.R_reads' HO_4.out).2.2 | (with_reducible refine Kd.C_alloc ?_ _) | (with_reducible refine Kd.C_drewN ?_ _) | (with_reducible refine Kd.C_drew ?_))); (case side4 => exact (Kd.R_reads' HO_4.out).2.1); rintro e w' ⟨rfl, ⟨nd, rfl⟩⟩) | (go_at_call 18; (with_reducible refine (impl_DeltaOk.calls kj4 _ _ t481 true _ ?side1 ?side2 A41.out).mono ?_); (case side1 => repeat (first | exact (Kd.S_reads' HO_5.out).2.2 | (with_reducible refine Kd.C_alloc ?_ _) | (with_reducible refine Kd.C_drewN ?_ _) | (with_reducible refine Kd.C_drew ?_))); (case side2 => exact (Kd.S_reads' HO_5.out).2.1); rintro e w51 ⟨rfl, hb⟩; have n0_ := Aside0.mk (Kd.R_below (by (with_reducible repeat (first | apply Kd.R_alloc | apply Kd.R_drewN | apply Kd.R_drew)); exact HO_3.out) hb); have n1_ := Aside0.mk (Kd.R_below (by (with_reducible repeat (first | apply Kd.R_alloc | apply Kd.R_drewN | apply Kd.R_drew)); exact HO_4.out) hb); have n2_ := Aside0.mk (Kd.S_below (by (with_reducible repeat (first | apply Kd.S_alloc | apply Kd.S_drewN | apply Kd.S_drew)); exact HO_5.out) hb); have n3_ := Aside0.mk (Kd.R_below (by (with_reducible repeat (first | apply Kd.R_alloc | apply Kd.R_drewN | apply Kd.R_drew)); exact HO497.out) hb); have n4_ := Aside0.mk (Kd.S_below (by (with_reducible repeat (first | apply Kd.S_alloc | apply Kd.S_drewN | apply Kd.S_drew)); exact HO500.out) hb); have n5_ := Aside0.mk (Kd.S_below (by (with_reducible repeat (first | apply Kd.S_alloc | apply Kd.S_drewN | apply Kd.S_drew)); exact HO503.out) hb); have n6_ := Aside0.mk (below_step (by repeat (first | (with_reducible first | exact HB.out | apply below_alloc | apply pw_below_drewN | apply below_drew1) | exact HB.out)) hb); clear HO_3; clear HO_4; clear HO_5; clear HO497; clear HO500; clear HO503; clear HB; have HO_3 := n0_; have HO_4 := n1_; have HO_5 := n2_; have HO497 := n3_; have HO500 := n4_; have HO503 := n5_; have HB := n6_; clear n0_ n1_ n2_ n3_ n4_ n5_ n6_; (try clear hb); (try clear hb2); (try clear hk); (try clear hi); obtain ⟨Ao52, co52, eo52⟩ := Kd.S_slice HO500.out; subst eo52; obtain ⟨Ao53, co53, eo53⟩ := Kd.S_slice HO503.out; subst eo53))
                   go_ret
                   exact ⟨by first | rfl | (simp [errW_none, errW_some] <;> rfl) | (simp [*, errW_none, errW_some] <;> rfl), by repeat (first | (with_reducible first | exact HB.out | apply below_alloc | apply pw_below_drewN | apply below_drew1) | exact HB.out)⟩
                 · rw [if_neg c45] at H
                   have c45b0 : ((t476.length : Int) == 0) = false := beq_eq_false_iff_ne.mpr c45
                   have c45b1 : ((t476.length : Int) != 0) = true := bne_iff_ne.mpr c45
                   have c45b2 : ¬ (t476 = []) := fun h_ => c45 (by rw [h_]; rfl)
                   by_cases c54 : 0 < (t498.length : Int)
                   · rw [if_pos c54] at H
                     have c54b0 : decide (0 < (t498.length : Int)) = true := decide_eq_true c54
                     have c54b1 : decide (0 < t498.length) = true := decide_eq_true (by omega)
                     clear c54
                     by_cases c55 : ((rd_T39 t498 0).f1) = (t476.length : Int)
                     · rw [if_pos c55] at H
                       have c55b0 : (((rd_T39 t498 0).f1) == (t476.length : Int)) = true := beq_iff_eq.mpr c55
                       have c55b1 : (((rd_T39 t498 0).f1) != (t476.length : Int)) = false := bne_eq_false_iff_eq.mpr c55
                       clear c55
                       by_cases c56 : 0 < (t501.length : Int)
                       · rw [if_pos c56] at H
                         have c56b0 : decide (0 < (t501.length : Int)) = true := decide_eq_true c56
                         have c56b1 : decide (0 < t501.length) = true := decide_eq_true (by omega)
                         clear c56
                         replace H := Option.bind_eq_some_iff.mp H
                         obtain ⟨t508, A570, H⟩ := H
                         replace H : (some t508) = some r := H
                         have A57 := Aside0.mk A570
                         clear A570
                         obtain rfl := Option.some.inj H
                         obtain ⟨Ao58, co58, eo58⟩ := Kd.S_slice HO_5.out
                         subst eo58
                         go_wp2_with (first | ((with_reducible refine gate_callee (f := 25) rfl ?_); refine goesL_ (some 45) rfl rfl Try.func25 (by kernel_rfl) rfl #[.slice Ao7 t475.length co7, .slice Ao58 t481.length co58] rfl (by (try simp only [List.map_toArray, List.map_cons, List.map_nil]); first | done | rfl | (simp only [List.length_drop, List.length_take]; rfl)) ?_; (with_reducible refine (impl_DeltaDo.calls kj4 _ _ t475 _ _ t481 t494 true _ ?side1 ?side2 ?side3 ?side4 A35.out).mono ?_); (case side1 => repeat (first | exact (Kd.R_reads' HO_3.out).2.2 | (with_reducible refine Kd.C_alloc ?_ _) | (with_reducible refine Kd.C_drewN ?_ _) | (with_reducible refine Kd.C_drew ?_))); (case side2 => exact (Kd.R_reads' HO_3.out).2.1); (case side3 => repeat (first | exact (Kd.S_reads' HO_5.out).2.2 | (with_reducible refine Kd.C_alloc ?_ _) | (with_reducible refine Kd.C_drewN ?_ _) | (with_reducible refine Kd.C_drew ?_))); (case side4 => exact (Kd.S_reads' HO_5.out).2.1); rintro e w59 ⟨v496, rfl, ho0, hb⟩; refine ⟨_, rfl, ?_⟩; have n0_ := Aside0.mk (Kd.R_elder' (by (with_reducible repeat (first | apply Kd.R_alloc | apply Kd.R_drewN | apply Kd.R_drew)); exact HO_3.out) (Kd.R_base ho0) hb); have n1_ := Aside0.mk (Kd.R_elder' (by (with_reducible repeat (first | apply Kd.R_alloc | apply Kd.R_drewN | apply Kd.R_drew)); exact HO_4.out) (Kd.R_base ho0) hb); have n2_ := Aside0.mk (Kd.S_elder' (by (with_reducible repeat (first | apply Kd.S_alloc | apply Kd.S_drewN | apply Kd.S_drew)); exact HO_5.out) (Kd.R_base ho0) hb); have n3_ := Aside0.mk (Kd.R_lower (Kd.R_new' (Kd.R_new' ho0 (Kd.R_lt (by (with_reducible repeat (first | apply Kd.R_alloc | apply Kd.R_drewN | apply Kd.R_drew)); exact HO_3.out))) (Kd.R_lt (by (with_reducible repeat (first | apply Kd.R_alloc | apply Kd.R_drewN | apply Kd.R_drew)); exact HO_4.out))) (below_size (by repeat (first | (with_reducible first | exact HB.out | apply below_alloc | apply pw_below_drewN | apply below_drew1) | exact HB.out)))); have n4_ := Aside0.mk (below_step (by repeat (first | (with_reducible first | exact HB.out | apply below_alloc | apply pw_below_drewN | apply below_drew1) | exact HB.out)) hb); clear HO_3; clear HO_4; clear HO_5; clear HB; have HO_3 := n0_; have HO_4 := n1_; have HO_5 := n2_; have HO497 := n3_; have HB := n4_; clear n0_ n1_ n2_ n3_ n4_; (try clear hb); (try clear hb2); (try clear hk); (try clear hi); (try clear ho0)) | ((with_reducible refine gate_callee (f := 21) rfl ?_); refine goesL_ (some 50) rfl rfl Try.func21 (by kernel_rfl) rfl #[.slice Ao8 t476.length co8, .slice Ao8 t476.length co8] rfl (by (try simp only [List.map_toArray, List.map_cons, List.map_nil]); first | done | rfl | (simp only [List.length_drop, List.length_take]; rfl)) ?_; (with_reducible refine (impl_DeltaOf.calls kj4 _ _ t476 _ _ t476 t498 _ ?side1 ?side2 ?side3 ?side4 A36.out).mono ?_); (case side1 => repeat (first | exact (Kd.R_reads' HO_4.out).2.2 | (with_reducible refine Kd.C_alloc ?_ _) | (with_reducible refine Kd.C_drewN ?_ _) | (with_reducible refine Kd.C_drew ?_))); (case side2 => exact (Kd.R_reads' HO_4.out).2.1); (case side3 => repeat (first | exact (Kd.R_reads' HO_4.out).2.2 | (with_reducible refine Kd.C_alloc ?_ _) | (with_reducible refine Kd.C_drewN ?_ _) | (with_reducible refine Kd.C_drew ?_))); (case side4 => exact (Kd.R_reads' HO_4.out).2.1); rintro e w60 ⟨v499, rfl, ho0, hb⟩; refine ⟨_, rfl, ?_⟩; have n0_ := Aside0.mk (Kd.R_below (by (with_reducible repeat (first | apply Kd.R_alloc | apply Kd.R_drewN | apply Kd.R_drew)); exact HO_3.out) hb); have n1_ := Aside0.mk (Kd.R_below (by (with_reducible repeat (first | apply Kd.R_alloc | apply Kd.R_drewN | apply Kd.R_drew)); exact HO_4.out) hb); have n2_ := Aside0.mk (Kd.S_elder' (by (with_reducible repeat (first | apply Kd.S_alloc | apply Kd.S_drewN | apply Kd.S_drew)); exact HO_5.out) (Kd.S_base ho0) hb); have n3_ := Aside0.mk (Kd.R_below (by (with_reducible repeat (first | apply Kd.R_alloc | apply Kd.R_drewN | apply Kd.R_drew)); exact HO497.out) hb); have n4_ := Aside0.mk (Kd.S_lower (Kd.S_new' (Kd.S_new' (Kd.S_new' (Kd.S_new' ho0 (Kd.R_lt (by (with_reducible repeat (first | apply Kd.R_alloc | apply Kd.R_drewN | apply Kd.R_drew)); exact HO_3.out))) (Kd.R_lt (by (with_reducible repeat (first | apply Kd.R_alloc | apply Kd.R_drewN | apply Kd.R_drew)); exact HO_4.out))) (Kd.S_lt (by (with_reducible repeat (first | apply Kd.S_alloc | apply Kd.S_drewN | apply Kd.S_drew)); exact HO_5.out))) (Kd.R_lt (by (with_reducible repeat (first | apply Kd.R_alloc | apply Kd.R_drewN | apply Kd.R_drew)); exact HO497.out))) (below_size (by repeat (first | (with_reducible first | exact HB.out | apply below_alloc | apply pw_below_drewN | apply below_drew1) | exact HB.out)))); have n5_ := Aside0.mk (below_step (by repeat (first | (with_reducible first | exact HB.out | apply below_alloc | apply pw_below_drewN | apply below_drew1) | exact HB.out)) hb); clear HO_3; clear HO_4; clear HO_5; clear HO497; clear HB; have HO_3 := n0_; have HO_4 := n1_; have HO_5 := n2_; have HO497 := n3_; have HO500 := n4_; have HB := n5_; clear n0_ n1_ n2_ n3_ n4_ n5_; (try clear hb); (try clear hb2); (try clear hk); (try clear hi); (try clear ho0)) | ((with_reducible refine gate_callee (f := 21) rfl ?_); refine goesL_ (some 52) rfl rfl Try.func21 (by kernel_rfl) rfl #[.slice none 0 0, .slice Ao8 t476.length co8] rfl (by (try simp only [List.map_toArray, List.map_cons, List.map_nil]); first | done | rfl | (simp only [List.length_drop, List.length_take]; rfl)) ?_; (refine (impl_DeltaOf.calls kj4 _ _ ([] : List ByteArray) _ _ t476 t501 _ ?side1 ?side2 ?side3 ?side4 A37.out).mono ?_); (case side1 => exact Kd.C_nil _ _); (case side2 => exact Nat.le_refl _); (case side3 => repeat (first | exact (Kd.R_reads' HO_4.out).2.2 | (with_reducible refine Kd.C_alloc ?_ _) | (with_reducible refine Kd.C_drewN ?_ _) | (with_reducible refine Kd.C_drew ?_))); (case side4 => exact (Kd.R_reads' HO_4.out).2.1); rintro e w61 ⟨v502, rfl, ho0, hb⟩; refine ⟨_, rfl, ?_⟩; have n0_ := Aside0.mk (Kd.R_below (by (with_reducible repeat (first | apply Kd.R_alloc | apply Kd.R_drewN | apply Kd.R_drew)); exact HO_3.out) hb); have n1_ := Aside0.mk (Kd.R_below (by (with_reducible repeat (first | apply Kd.R_alloc | apply Kd.R_drewN | apply Kd.R_drew)); exact HO_4.out) hb); have n2_ := Aside0.mk (Kd.S_elder' (by (with_reducible repeat (first | apply Kd.S_alloc | apply Kd.S_drewN | apply Kd.S_drew)); exact HO_5.out) (Kd.S_base ho0) hb); have n3_ := Aside0.mk (Kd.R_below (by (with_reducible repeat (first | apply Kd.R_alloc | apply Kd.R_drewN | apply Kd.R_drew)); exact HO497.out) hb); have n4_ := Aside0.mk (Kd.S_elder' (by (with_reducible repeat (first | apply Kd.S_alloc | apply Kd.S_drewN | apply Kd.S_drew)); exact HO500.out) (Kd.S_base ho0) hb); have n5_ := Aside0.mk (Kd.S_lower (Kd.S_new' (Kd.S_new' (Kd.S_new' (Kd.S_new' (Kd.S_new' ho0 (Kd.R_lt (by (with_reducible repeat (first | apply Kd.R_alloc | apply Kd.R_drewN | apply Kd.R_drew)); exact HO_3.out))) (Kd.R_lt (by (with_reducible repeat (first | apply Kd.R_alloc | apply Kd.R_drewN | apply Kd.R_drew)); exact HO_4.out))) (Kd.S_lt (by (with_reducible repeat (first | apply Kd.S_alloc | apply Kd.S_drewN | apply Kd.S_drew)); exact HO_5.out))) (Kd.R_lt (by (with_reducible repeat (first | apply Kd.R_alloc | apply Kd.R_drewN | apply Kd.R_drew)); exact HO497.out))) (Kd.S_lt (by (with_reducible repeat (first | apply Kd.S_alloc | apply Kd.S_drewN | apply Kd.S_drew)); exact HO500.out))) (below_size (by repeat (first | (with_reducible first | exact HB.out | apply below_alloc | apply pw_below_drewN | apply below_drew1) | exact HB.out)))); have n6_ := Aside0.mk (below_step (by repeat (first | (with_reducible first | exact HB.out | apply below_alloc | apply pw_below_drewN | apply below_drew1) | exact HB.out)) hb); clear HO_3; clear HO_4; clear HO_5; clear HO497; clear HO500; clear HB; have HO_3 := n0_; have HO_4 := n1_; have HO_5 := n2_; have HO497 := n3_; have HO500 := n4_; have HO503 := n5_; have HB := n6_; clear n0_ n1_ n2_ n3_ n4_ n5_ n6_; (try clear hb); (try clear hb2); (try clear hk); (try clear hi); (try clear ho0); obtain ⟨Ao62, co62, eo62⟩ := Kd.R_slice HO497.out; subst eo62) | (go_at_call 26; (with_reducible refine (laws_smTexts.calls kj4 _ _ t494 _ _ t476 true _ ?side1 ?side2 ?side3 ?side4 A39.out).mono ?_); (case side1 => repeat (first | exact (Kd.R_reads' HO497.out).2.2 | (with_reducible refine Kd.C_alloc ?_ _) | (with_reducible refine Kd.C_drewN ?_ _) | (with_reducible refine Kd.C_drew ?_))); (case side2 => exact (Kd.R_reads' HO497.out).2.1); (case side3 => repeat (first | exact (Kd.R_reads' HO_4.out).2.2 | (with_reducible refine Kd.C_alloc ?_ _) | (with_reducible refine Kd.C_drewN ?_ _) | (with_reducible refine Kd.C_drew ?_))); (case side4 => exact (Kd.R_reads' HO_4.out).2.1); rintro e w' ⟨rfl, ⟨nd, rfl⟩⟩) | (go_at_call 18; (with_reducible refine (impl_DeltaOk.calls kj4 _ _ t481 true _ ?side1 ?side2 A41.out).mono ?_); (case side1 => repeat (first | exact (Kd.S_reads' HO_5.out).2.2 | (with_reducible refine Kd.C_alloc ?_ _) | (with_reducible refine Kd.C_drewN ?_ _) | (with_reducible refine Kd.C_drew ?_))); (case side2 => exact (Kd.S_reads' HO_5.out).2.1); rintro e w63 ⟨rfl, hb⟩; have n0_ := Aside0.mk (Kd.R_below (by (with_reducible repeat (first | apply Kd.R_alloc | apply Kd.R_drewN | apply Kd.R_drew)); exact HO_3.out) hb); have n1_ := Aside0.mk (Kd.R_below (by (with_reducible repeat (first | apply Kd.R_alloc | apply Kd.R_drewN | apply Kd.R_drew)); exact HO_4.out) hb); have n2_ := Aside0.mk (Kd.S_below (by (with_reducible repeat (first | apply Kd.S_alloc | apply Kd.S_drewN | apply Kd.S_drew)); exact HO_5.out) hb); have n3_ := Aside0.mk (Kd.R_below (by (with_reducible repeat (first | apply Kd.R_alloc | apply Kd.R_drewN | apply Kd.R_drew)); exact HO497.out) hb); have n4_ := Aside0.mk (Kd.S_below (by (with_reducible repeat (first | apply Kd.S_alloc | apply Kd.S_drewN | apply Kd.S_drew)); exact HO500.out) hb); have n5_ := Aside0.mk (Kd.S_below (by (with_reducible repeat (first | apply Kd.S_alloc | apply Kd.S_drewN | apply Kd.S_drew)); exact HO503.out) hb); have n6_ := Aside0.mk (below_step (by repeat (first | (with_reducible first | exact HB.out | apply below_alloc | apply pw_below_drewN | apply below_drew1) | exact HB.out)) hb); clear HO_3; clear HO_4; clear HO_5; clear HO497; clear HO500; clear HO503; clear HB; have HO_3 := n0_; have HO_4 := n1_; have HO_5 := n2_; have HO497 := n3_; have HO500 := n4_; have HO503 := n5_; have HB := n6_; clear n0_ n1_ n2_ n3_ n4_ n5_ n6_; (try clear hb); (try clear hb2); (try clear hk); (try clear hi); obtain ⟨Ao64, co64, eo64⟩ := Kd.S_slice HO500.out; subst eo64; obtain ⟨Ao65, co65, eo65⟩ := Kd.S_slice HO503.out; subst eo65; have p506 : 0 ≤ (0 : Int) := (by omega); have q506 : 0 < (t498.length : Int) := of_decide_eq_true (by assumption); obtain ⟨ad506, A506_2, c506_2, e506, hx506_0, hx506_1, hx506_2, hl506_2, hi506_2⟩ := at_T39 (Kd.S_reads' HO500.out).2.2 0 p506 q506; cases e506; obtain ⟨ce506, hce506, hMe506, hcc506⟩ := Kd.S_get HO500.out z39 0 p506 (by first | exact q506 | exact of_decide_eq_true (by assumption) | (have e_ := (Kd.S_reads' HO500.out).1; omega)); obtain ⟨ve506_2, rfl, ge506_2⟩ := k39_openM hMe506; have hv506_2 := hcc506 2 _ rfl; rw [add_field _ _ 2 (by omega)] at hv506_2; replace hv506_2 := Option.some.inj (hv506_2.symm.trans hx506_2); rw [hv506_2] at ge506_2; have HL506_2 := Aside0.mk (show Kd.R Kd.string 9 _ _ _ _ ((rd_T39 t498 0).f2) from ge506_2); clear hv506_2 ge506_2; clear hcc506 hce506; have qi506 : (0 < t498.length) = True := eq_true (by omega); (try rw [show ((0 : Int)).toNat = 0 from rfl] at hx506_0); (try rw [show 0 * 3 = 0 from rfl] at hx506_0); (try rw [Addr.add_zero'] at hx506_0); (try rw [show ((0 : Int)).toNat = 0 from rfl] at hx506_1); (try rw [show 0 * 3 = 0 from rfl] at hx506_1); (try rw [Addr.add_zero'] at hx506_1); (try rw [show ((0 : Int)).toNat = 0 from rfl] at hx506_2); (try rw [show 0 * 3 = 0 from rfl] at hx506_2); (try rw [Addr.add_zero'] at hx506_2); have HR506_2 := Aside0.mk hi506_2; have HC506_2 := Aside0.mk hl506_2; clear hi506_2 hl506_2; replace p506 := eq_true p506; replace q506 := eq_true q506; have p507 : 0 ≤ (0 : Int) := (by omega); have q507 : 0 < (t501.length : Int) := of_decide_eq_true (by assumption); obtain ⟨ad507, A507_2, c507_2, e507, hx507_0, hx507_1, hx507_2, hl507_2, hi507_2⟩ := at_T39 (Kd.S_reads' HO503.out).2.2 0 p507 q507; cases e507; obtain ⟨ce507, hce507, hMe507, hcc507⟩ := Kd.S_get HO503.out z39 0 p507 (by first | exact q507 | exact of_decide_eq_true (by assumption) | (have e_ := (Kd.S_reads' HO503.out).1; omega)); obtain ⟨ve507_2, rfl, ge507_2⟩ := k39_openM hMe507; have hv507_2 := hcc507 2 _ rfl; rw [add_field _ _ 2 (by omega)] at hv507_2; replace hv507_2 := Option.some.inj (hv507_2.symm.trans hx507_2); rw [hv507_2] at ge507_2; have HL507_2 := Aside0.mk (show Kd.R Kd.string 9 _ _ _ _ ((rd_T39 t501 0).f2) from ge507_2); clear hv507_2 ge507_2; clear hcc507 hce507; have qi507 : (0 < t501.length) = True := eq_true (by omega); (try rw [show ((0 : Int)).toNat = 0 from rfl] at hx507_0); (try rw [show 0 * 3 = 0 from rfl] at hx507_0); (try rw [Addr.add_zero'] at hx507_0); (try rw [show ((0 : Int)).toNat = 0 from rfl] at hx507_1); (try rw [show 0 * 3 = 0 from rfl] at hx507_1); (try rw [Addr.add_zero'] at hx507_1); (try rw [show ((0 : Int)).toNat = 0 from rfl] at hx507_2); (try rw [show 0 * 3 = 0 from rfl] at hx507_2); (try rw [Addr.add_zero'] at hx507_2); have HR507_2 := Aside0.mk hi507_2; have HC507_2 := Aside0.mk hl507_2; clear hi507_2 hl507_2; replace p507 := eq_true p507; replace q507 := eq_true q507) | (go_at_call 26; (with_reducible refine (laws_smTexts.calls kj4 _ _ ((rd_T39 t501 0).f2) _ _ t476 t508 _ ?side1 ?side2 ?side3 ?side4 A57.out).mono ?_); (case side1 => repeat (first | exact (by repeat (first | (with_reducible exact HR507_2.out) | (with_reducible refine Kd.C_alloc ?_ _) | (with_reducible refine Kd.C_drewN ?_ _) | (with_reducible refine Kd.C_drew ?_) | exact HR507_2.out)) | (with_reducible refine Kd.C_alloc ?_ _) | (with_reducible refine Kd.C_drewN ?_ _) | (with_reducible refine Kd.C_drew ?_))); (case side2 => exact HC507_2.out); (case side3 => repeat (first | exact (Kd.R_reads' HO_4.out).2.2 | (with_reducible refine Kd.C_alloc ?_ _) | (with_reducible refine Kd.C_drewN ?_ _) | (with_reducible refine Kd.C_drew ?_))); (case side4 => exact (Kd.R_reads' HO_4.out).2.1); rintro e w' ⟨rfl, ⟨nd, rfl⟩⟩))
                         go_ret
                         exact ⟨by first | rfl | (simp [errW_none, errW_some] <;> rfl) | (simp [*, errW_none, errW_some] <;> rfl), by repeat (first | (with_reducible first | exact HB.out | apply below_alloc | apply pw_below_drewN | apply below_drew1) | exact HB.out)⟩
                       · rw [if_neg c56] at H
                         exact absurd H (by simp)
                     · rw [if_neg c55] at H
                       have c55b0 : (((rd_T39 t498 0).f1) == (t476.length : Int)) = false := beq_eq_false_iff_ne.mpr c55
                       have c55b1 : (((rd_T39 t498 0).f1) != (t476.length : Int)) = true := bne_iff_ne.mpr c55
                       obtain rfl := Option.some.inj H
                       obtain ⟨Ao66, co66, eo66⟩ := Kd.S_slice HO_5.out
                       subst eo66
                       go_wp2_with (first | ((with_reducible refine gate_callee (f := 25) rfl ?_); refine goesL_ (some 45) rfl rfl Try.func25 (by kernel_rfl) rfl #[.slice Ao7 t475.length co7, .slice Ao66 t481.length co66] rfl (by (try simp only [List.map_toArray, List.map_cons, List.map_nil]); first | done | rfl | (simp only [List.length_drop, List.length_take]; rfl)) ?_; (with_reducible refine (impl_DeltaDo.calls kj4 _ _ t475 _ _ t481 t494 true _ ?side1 ?side2 ?side3 ?side4 A35.out).mono ?_); (case side1 => repeat (first | exact (Kd.R_reads' HO_3.out).2.2 | (with_reducible refine Kd.C_alloc ?_ _) | (with_reducible refine Kd.C_drewN ?_ _) | (with_reducible refine Kd.C_drew ?_))); (case side2 => exact (Kd.R_reads' HO_3.out).2.1); (case side3 => repeat (first | exact (Kd.S_reads' HO_5.out).2.2 | (with_reducible refine Kd.C_alloc ?_ _) | (with_reducible refine Kd.C_drewN ?_ _) | (with_reducible refine Kd.C_drew ?_))); (case side4 => exact (Kd.S_reads' HO_5.out).2.1); rintro e w67 ⟨v496, rfl, ho0, hb⟩; refine ⟨_, rfl, ?_⟩; have n0_ := Aside0.mk (Kd.R_elder' (by (with_reducible repeat (first | apply Kd.R_alloc | apply Kd.R_drewN | apply Kd.R_drew)); exact HO_3.out) (Kd.R_base ho0) hb); have n1_ := Aside0.mk (Kd.R_elder' (by (with_reducible repeat (first | apply Kd.R_alloc | apply Kd.R_drewN | apply Kd.R_drew)); exact HO_4.out) (Kd.R_base ho0) hb); have n2_ := Aside0.mk (Kd.S_elder' (by (with_reducible repeat (first | apply Kd.S_alloc | apply Kd.S_drewN | apply Kd.S_drew)); exact HO_5.out) (Kd.R_base ho0) hb); have n3_ := Aside0.mk (Kd.R_lower (Kd.R_new' (Kd.R_new' ho0 (Kd.R_lt (by (with_reducible repeat (first | apply Kd.R_alloc | apply Kd.R_drewN | apply Kd.R_drew)); exact HO_3.out))) (Kd.R_lt (by (with_reducible repeat (first | apply Kd.R_alloc | apply Kd.R_drewN | apply Kd.R_drew)); exact HO_4.out))) (below_size (by repeat (first | (with_reducible first | exact HB.out | apply below_alloc | apply pw_below_drewN | apply below_drew1) | exact HB.out)))); have n4_ := Aside0.mk (below_step (by repeat (first | (with_reducible first | exact HB.out | apply below_alloc | apply pw_below_drewN | apply below_drew1) | exact HB.out)) hb); clear HO_3; clear HO_4; clear HO_5; clear HB; have HO_3 := n0_; have HO_4 := n1_; have HO_5 := n2_; have HO497 := n3_; have HB := n4_; clear n0_ n1_ n2_ n3_ n4_; (try clear hb); (try clear hb2); (try clear hk); (try clear hi); (try clear ho0)) | ((with_reducible refine gate_callee (f := 21) rfl ?_); refine goesL_ (some 50) rfl rfl Try.func21 (by kernel_rfl) rfl #[.slice Ao8 t476.length co8, .slice Ao8 t476.length co8] rfl (by (try simp only [List.map_toArray, List.map_cons, List.map_nil]); first | done | rfl | (simp only [List.length_drop, List.length_take]; rfl)) ?_; (with_reducible refine (impl_DeltaOf.calls kj4 _ _ t476 _ _ t476 t498 _ ?side1 ?side2 ?side3 ?side4 A36.out).mono ?_); (case side1 => repeat (first | exact (Kd.R_reads' HO_4.out).2.2 | (with_reducible refine Kd.C_alloc ?_ _) | (with_reducible refine Kd.C_drewN ?_ _) | (with_reducible refine Kd.C_drew ?_))); (case side2 => exact (Kd.R_reads' HO_4.out).2.1); (case side3 => repeat (first | exact (Kd.R_reads' HO_4.out).2.2 | (with_reducible refine Kd.C_alloc ?_ _) | (with_reducible refine Kd.C_drewN ?_ _) | (with_reducible refine Kd.C_drew ?_))); (case side4 => exact (Kd.R_reads' HO_4.out).2.1); rintro e w68 ⟨v499, rfl, ho0, hb⟩; refine ⟨_, rfl, ?_⟩; have n0_ := Aside0.mk (Kd.R_below (by (with_reducible repeat (first | apply Kd.R_alloc | apply Kd.R_drewN | apply Kd.R_drew)); exact HO_3.out) hb); have n1_ := Aside0.mk (Kd.R_below (by (with_reducible repeat (first | apply Kd.R_alloc | apply Kd.R_drewN | apply Kd.R_drew)); exact HO_4.out) hb); have n2_ := Aside0.mk (Kd.S_elder' (by (with_reducible repeat (first | apply Kd.S_alloc | apply Kd.S_drewN | apply Kd.S_drew)); exact HO_5.out) (Kd.S_base ho0) hb); have n3_ := Aside0.mk (Kd.R_below (by (with_reducible repeat (first | apply Kd.R_alloc | apply Kd.R_drewN | apply Kd.R_drew)); exact HO497.out) hb); have n4_ := Aside0.mk (Kd.S_lower (Kd.S_new' (Kd.S_new' (Kd.S_new' (Kd.S_new' ho0 (Kd.R_lt (by (with_reducible repeat (first | apply Kd.R_alloc | apply Kd.R_drewN | apply Kd.R_drew)); exact HO_3.out))) (Kd.R_lt (by (with_reducible repeat (first | apply Kd.R_alloc | apply Kd.R_drewN | apply Kd.R_drew)); exact HO_4.out))) (Kd.S_lt (by (with_reducible repeat (first | apply Kd.S_alloc | apply Kd.S_drewN | apply Kd.S_drew)); exact HO_5.out))) (Kd.R_lt (by (with_reducible repeat (first | apply Kd.R_alloc | apply Kd.R_drewN | apply Kd.R_drew)); exact HO497.out))) (below_size (by repeat (first | (with_reducible first | exact HB.out | apply below_alloc | apply pw_below_drewN | apply below_drew1) | exact HB.out)))); have n5_ := Aside0.mk (below_step (by repeat (first | (with_reducible first | exact HB.out | apply below_alloc | apply pw_below_drewN | apply below_drew1) | exact HB.out)) hb); clear HO_3; clear HO_4; clear HO_5; clear HO497; clear HB; have HO_3 := n0_; have HO_4 := n1_; have HO_5 := n2_; have HO497 := n3_; have HO500 := n4_; have HB := n5_; clear n0_ n1_ n2_ n3_ n4_ n5_; (try clear hb); (try clear hb2); (try clear hk); (try clear hi); (try clear ho0)) | ((with_reducible refine gate_callee (f := 21) rfl ?_); refine goesL_ (some 52) rfl rfl Try.func21 (by kernel_rfl) rfl #[.slice none 0 0, .slice Ao8 t476.length co8] rfl (by (try simp only [List.map_toArray, List.map_cons, List.map_nil]); first | done | rfl | (simp only [List.length_drop, List.length_take]; rfl)) ?_; (refine (impl_DeltaOf.calls kj4 _ _ ([] : List ByteArray) _ _ t476 t501 _ ?side1 ?side2 ?side3 ?side4 A37.out).mono ?_); (case side1 => exact Kd.C_nil _ _); (case side2 => exact Nat.le_refl _); (case side3 => repeat (first | exact (Kd.R_reads' HO_4.out).2.2 | (with_reducible refine Kd.C_alloc ?_ _) | (with_reducible refine Kd.C_drewN ?_ _) | (with_reducible refine Kd.C_drew ?_))); (case side4 => exact (Kd.R_reads' HO_4.out).2.1); rintro e w69 ⟨v502, rfl, ho0, hb⟩; refine ⟨_, rfl, ?_⟩; have n0_ := Aside0.mk (Kd.R_below (by (with_reducible repeat (first | apply Kd.R_alloc | apply Kd.R_drewN | apply Kd.R_drew)); exact HO_3.out) hb); have n1_ := Aside0.mk (Kd.R_below (by (with_reducible repeat (first | apply Kd.R_alloc | apply Kd.R_drewN | apply Kd.R_drew)); exact HO_4.out) hb); have n2_ := Aside0.mk (Kd.S_elder' (by (with_reducible repeat (first | apply Kd.S_alloc | apply Kd.S_drewN | apply Kd.S_drew)); exact HO_5.out) (Kd.S_base ho0) hb); have n3_ := Aside0.mk (Kd.R_below (by (with_reducible repeat (first | apply Kd.R_alloc | apply Kd.R_drewN | apply Kd.R_drew)); exact HO497.out) hb); have n4_ := Aside0.mk (Kd.S_elder' (by (with_reducible repeat (first | apply Kd.S_alloc | apply Kd.S_drewN | apply Kd.S_drew)); exact HO500.out) (Kd.S_base ho0) hb); have n5_ := Aside0.mk (Kd.S_lower (Kd.S_new' (Kd.S_new' (Kd.S_new' (Kd.S_new' (Kd.S_new' ho0 (Kd.R_lt (by (with_reducible repeat (first | apply Kd.R_alloc | apply Kd.R_drewN | apply Kd.R_drew)); exact HO_3.out))) (Kd.R_lt (by (with_reducible repeat (first | apply Kd.R_alloc | apply Kd.R_drewN | apply Kd.R_drew)); exact HO_4.out))) (Kd.S_lt (by (with_reducible repeat (first | apply Kd.S_alloc | apply Kd.S_drewN | apply Kd.S_drew)); exact HO_5.out))) (Kd.R_lt (by (with_reducible repeat (first | apply Kd.R_alloc | apply Kd.R_drewN | apply Kd.R_drew)); exact HO497.out))) (Kd.S_lt (by (with_reducible repeat (first | apply Kd.S_alloc | apply Kd.S_drewN | apply Kd.S_drew)); exact HO500.out))) (below_size (by repeat (first | (with_reducible first | exact HB.out | apply below_alloc | apply pw_below_drewN | apply below_drew1) | exact HB.out)))); have n6_ := Aside0.mk (below_step (by repeat (first | (with_reducible first | exact HB.out | apply below_alloc | apply pw_below_drewN | apply below_drew1) | exact HB.out)) hb); clear HO_3; clear HO_4; clear HO_5; clear HO497; clear HO500; clear HB; have HO_3 := n0_; have HO_4 := n1_; have HO_5 := n2_; have HO497 := n3_; have HO500 := n4_; have HO503 := n5_; have HB := n6_; clear n0_ n1_ n2_ n3_ n4_ n5_ n6_; (try clear hb); (try clear hb2); (try clear hk); (try clear hi); (try clear ho0); obtain ⟨Ao70, co70, eo70⟩ := Kd.R_slice HO497.out; subst eo70) | (go_at_call 26; (with_reducible refine (laws_smTexts.calls kj4 _ _ t494 _ _ t476 true _ ?side1 ?side2 ?side3 ?side4 A39.out).mono ?_); (case side1 => repeat (first | exact (Kd.R_reads' HO497.out).2.2 | (with_reducible refine Kd.C_alloc ?_ _) | (with_reducible refine Kd.C_drewN ?_ _) | (with_reducible refine Kd.C_drew ?_))); (case side2 => exact (Kd.R_reads' HO497.out).2.1); (case side3 => repeat (first | exact (Kd.R_reads' HO_4.out).2.2 | (with_reducible refine Kd.C_alloc ?_ _) | (with_reducible refine Kd.C_drewN ?_ _) | (with_reducible refine Kd.C_drew ?_))); (case side4 => exact (Kd.R_reads' HO_4.out).2.1); rintro e w' ⟨rfl, ⟨nd, rfl⟩⟩) | (go_at_call 18; (with_reducible refine (impl_DeltaOk.calls kj4 _ _ t481 true _ ?side1 ?side2 A41.out).mono ?_); (case side1 => repeat (first | exact (Kd.S_reads' HO_5.out).2.2 | (with_reducible refine Kd.C_alloc ?_ _) | (with_reducible refine Kd.C_drewN ?_ _) | (with_reducible refine Kd.C_drew ?_))); (case side2 => exact (Kd.S_reads' HO_5.out).2.1); rintro e w71 ⟨rfl, hb⟩; have n0_ := Aside0.mk (Kd.R_below (by (with_reducible repeat (first | apply Kd.R_alloc | apply Kd.R_drewN | apply Kd.R_drew)); exact HO_3.out) hb); have n1_ := Aside0.mk (Kd.R_below (by (with_reducible repeat (first | apply Kd.R_alloc | apply Kd.R_drewN | apply Kd.R_drew)); exact HO_4.out) hb); have n2_ := Aside0.mk (Kd.S_below (by (with_reducible repeat (first | apply Kd.S_alloc | apply Kd.S_drewN | apply Kd.S_drew)); exact HO_5.out) hb); have n3_ := Aside0.mk (Kd.R_below (by (with_reducible repeat (first | apply Kd.R_alloc | apply Kd.R_drewN | apply Kd.R_drew)); exact HO497.out) hb); have n4_ := Aside0.mk (Kd.S_below (by (with_reducible repeat (first | apply Kd.S_alloc | apply Kd.S_drewN | apply Kd.S_drew)); exact HO500.out) hb); have n5_ := Aside0.mk (Kd.S_below (by (with_reducible repeat (first | apply Kd.S_alloc | apply Kd.S_drewN | apply Kd.S_drew)); exact HO503.out) hb); have n6_ := Aside0.mk (below_step (by repeat (first | (with_reducible first | exact HB.out | apply below_alloc | apply pw_below_drewN | apply below_drew1) | exact HB.out)) hb); clear HO_3; clear HO_4; clear HO_5; clear HO497; clear HO500; clear HO503; clear HB; have HO_3 := n0_; have HO_4 := n1_; have HO_5 := n2_; have HO497 := n3_; have HO500 := n4_; have HO503 := n5_; have HB := n6_; clear n0_ n1_ n2_ n3_ n4_ n5_ n6_; (try clear hb); (try clear hb2); (try clear hk); (try clear hi); obtain ⟨Ao72, co72, eo72⟩ := Kd.S_slice HO500.out; subst eo72; obtain ⟨Ao73, co73, eo73⟩ := Kd.S_slice HO503.out; subst eo73; have p506 : 0 ≤ (0 : Int) := (by omega); have q506 : 0 < (t498.length : Int) := of_decide_eq_true (by assumption); obtain ⟨ad506, A506_2, c506_2, e506, hx506_0, hx506_1, hx506_2, hl506_2, hi506_2⟩ := at_T39 (Kd.S_reads' HO500.out).2.2 0 p506 q506; cases e506; obtain ⟨ce506, hce506, hMe506, hcc506⟩ := Kd.S_get HO500.out z39 0 p506 (by first | exact q506 | exact of_decide_eq_true (by assumption) | (have e_ := (Kd.S_reads' HO500.out).1; omega)); obtain ⟨ve506_2, rfl, ge506_2⟩ := k39_openM hMe506; have hv506_2 := hcc506 2 _ rfl; rw [add_field _ _ 2 (by omega)] at hv506_2; replace hv506_2 := Option.some.inj (hv506_2.symm.trans hx506_2); rw [hv506_2] at ge506_2; have HL506_2 := Aside0.mk (show Kd.R Kd.string 9 _ _ _ _ ((rd_T39 t498 0).f2) from ge506_2); clear hv506_2 ge506_2; clear hcc506 hce506; have qi506 : (0 < t498.length) = True := eq_true (by omega); (try rw [show ((0 : Int)).toNat = 0 from rfl] at hx506_0); (try rw [show 0 * 3 = 0 from rfl] at hx506_0); (try rw [Addr.add_zero'] at hx506_0); (try rw [show ((0 : Int)).toNat = 0 from rfl] at hx506_1); (try rw [show 0 * 3 = 0 from rfl] at hx506_1); (try rw [Addr.add_zero'] at hx506_1); (try rw [show ((0 : Int)).toNat = 0 from rfl] at hx506_2); (try rw [show 0 * 3 = 0 from rfl] at hx506_2); (try rw [Addr.add_zero'] at hx506_2); have HR506_2 := Aside0.mk hi506_2; have HC506_2 := Aside0.mk hl506_2; clear hi506_2 hl506_2; replace p506 := eq_true p506; replace q506 := eq_true q506))
                       go_ret
                       exact ⟨by first | rfl | (simp [errW_none, errW_some] <;> rfl) | (simp [*, errW_none, errW_some] <;> rfl), by repeat (first | (with_reducible first | exact HB.out | apply below_alloc | apply pw_below_drewN | apply below_drew1) | exact HB.out)⟩
                   · rw [if_neg c54] at H
                     exact absurd H (by simp)
               · rw [if_neg c44] at H
                 have c44b0 : decide ((t501.length : Int) ≤ 1) = false := decide_eq_false c44
                 have c44b1 : decide (t501.length ≤ 1) = false := decide_eq_false (by omega)
                 clear c44
                 obtain rfl := Option.some.inj H
                 obtain ⟨Ao74, co74, eo74⟩ := Kd.S_slice HO_5.out
                 subst eo74
                 go_wp2_with (first | ((with_reducible refine gate_callee (f := 25) rfl ?_); refine goesL_ (some 45) rfl rfl Try.func25 (by kernel_rfl) rfl #[.slice Ao7 t475.length co7, .slice Ao74 t481.length co74] rfl (by (try simp only [List.map_toArray, List.map_cons, List.map_nil]); first | done | rfl | (simp only [List.length_drop, List.length_take]; rfl)) ?_; (with_reducible refine (impl_DeltaDo.calls kj4 _ _ t475 _ _ t481 t494 true _ ?side1 ?side2 ?side3 ?side4 A35.out).mono ?_); (case side1 => repeat (first | exact (Kd.R_reads' HO_3.out).2.2 | (with_reducible refine Kd.C_alloc ?_ _) | (with_reducible refine Kd.C_drewN ?_ _) | (with_reducible refine Kd.C_drew ?_))); (case side2 => exact (Kd.R_reads' HO_3.out).2.1); (case side3 => repeat (first | exact (Kd.S_reads' HO_5.out).2.2 | (with_reducible refine Kd.C_alloc ?_ _) | (with_reducible refine Kd.C_drewN ?_ _) | (with_reducible refine Kd.C_drew ?_))); (case side4 => exact (Kd.S_reads' HO_5.out).2.1); rintro e w75 ⟨v496, rfl, ho0, hb⟩; refine ⟨_, rfl, ?_⟩; have n0_ := Aside0.mk (Kd.R_elder' (by (with_reducible repeat (first | apply Kd.R_alloc | apply Kd.R_drewN | apply Kd.R_drew)); exact HO_3.out) (Kd.R_base ho0) hb); have n1_ := Aside0.mk (Kd.R_elder' (by (with_reducible repeat (first | apply Kd.R_alloc | apply Kd.R_drewN | apply Kd.R_drew)); exact HO_4.out) (Kd.R_base ho0) hb); have n2_ := Aside0.mk (Kd.S_elder' (by (with_reducible repeat (first | apply Kd.S_alloc | apply Kd.S_drewN | apply Kd.S_drew)); exact HO_5.out) (Kd.R_base ho0) hb); have n3_ := Aside0.mk (Kd.R_lower (Kd.R_new' (Kd.R_new' ho0 (Kd.R_lt (by (with_reducible repeat (first | apply Kd.R_alloc | apply Kd.R_drewN | apply Kd.R_drew)); exact HO_3.out))) (Kd.R_lt (by (with_reducible repeat (first | apply Kd.R_alloc | apply Kd.R_drewN | apply Kd.R_drew)); exact HO_4.out))) (below_size (by repeat (first | (with_reducible first | exact HB.out | apply below_alloc | apply pw_below_drewN | apply below_drew1) | exact HB.out)))); have n4_ := Aside0.mk (below_step (by repeat (first | (with_reducible first | exact HB.out | apply below_alloc | apply pw_below_drewN | apply below_drew1) | exact HB.out)) hb); clear HO_3; clear HO_4; clear HO_5; clear HB; have HO_3 := n0_; have HO_4 := n1_; have HO_5 := n2_; have HO497 := n3_; have HB := n4_; clear n0_ n1_ n2_ n3_ n4_; (try clear hb); (try clear hb2); (try clear hk); (try clear hi); (try clear ho0)) | ((with_reducible refine gate_callee (f := 21) rfl ?_); refine goesL_ (some 50) rfl rfl Try.func21 (by kernel_rfl) rfl #[.slice Ao8 t476.length co8, .slice Ao8 t476.length co8] rfl (by (try simp only [List.map_toArray, List.map_cons, List.map_nil]); first | done | rfl | (simp only [List.length_drop, List.length_take]; rfl)) ?_; (with_reducible refine (impl_DeltaOf.calls kj4 _ _ t476 _ _ t476 t498 _ ?side1 ?side2 ?side3 ?side4 A36.out).mono ?_); (case side1 => repeat (first | exact (Kd.R_reads' HO_4.out).2.2 | (with_reducible refine Kd.C_alloc ?_ _) | (with_reducible refine Kd.C_drewN ?_ _) | (with_reducible refine Kd.C_drew ?_))); (case side2 => exact (Kd.R_reads' HO_4.out).2.1); (case side3 => repeat (first | exact (Kd.R_reads' HO_4.out).2.2 | (with_reducible refine Kd.C_alloc ?_ _) | (with_reducible refine Kd.C_drewN ?_ _) | (with_reducible refine Kd.C_drew ?_))); (case side4 => exact (Kd.R_reads' HO_4.out).2.1); rintro e w76 ⟨v499, rfl, ho0, hb⟩; refine ⟨_, rfl, ?_⟩; have n0_ := Aside0.mk (Kd.R_below (by (with_reducible repeat (first | apply Kd.R_alloc | apply Kd.R_drewN | apply Kd.R_drew)); exact HO_3.out) hb); have n1_ := Aside0.mk (Kd.R_below (by (with_reducible repeat (first | apply Kd.R_alloc | apply Kd.R_drewN | apply Kd.R_drew)); exact HO_4.out) hb); have n2_ := Aside0.mk (Kd.S_elder' (by (with_reducible repeat (first | apply Kd.S_alloc | apply Kd.S_drewN | apply Kd.S_drew)); exact HO_5.out) (Kd.S_base ho0) hb); have n3_ := Aside0.mk (Kd.R_below (by (with_reducible repeat (first | apply Kd.R_alloc | apply Kd.R_drewN | apply Kd.R_drew)); exact HO497.out) hb); have n4_ := Aside0.mk (Kd.S_lower (Kd.S_new' (Kd.S_new' (Kd.S_new' (Kd.S_new' ho0 (Kd.R_lt (by (with_reducible repeat (first | apply Kd.R_alloc | apply Kd.R_drewN | apply Kd.R_drew)); exact HO_3.out))) (Kd.R_lt (by (with_reducible repeat (first | apply Kd.R_alloc | apply Kd.R_drewN | apply Kd.R_drew)); exact HO_4.out))) (Kd.S_lt (by (with_reducible repeat (first | apply Kd.S_alloc | apply Kd.S_drewN | apply Kd.S_drew)); exact HO_5.out))) (Kd.R_lt (by (with_reducible repeat (first | apply Kd.R_alloc | apply Kd.R_drewN | apply Kd.R_drew)); exact HO497.out))) (below_size (by repeat (first | (with_reducible first | exact HB.out | apply below_alloc | apply pw_below_drewN | apply below_drew1) | exact HB.out)))); have n5_ := Aside0.mk (below_step (by repeat (first | (with_reducible first | exact HB.out | apply below_alloc | apply pw_below_drewN | apply below_drew1) | exact HB.out)) hb); clear HO_3; clear HO_4; clear HO_5; clear HO497; clear HB; have HO_3 := n0_; have HO_4 := n1_; have HO_5 := n2_; have HO497 := n3_; have HO500 := n4_; have HB := n5_; clear n0_ n1_ n2_ n3_ n4_ n5_; (try clear hb); (try clear hb2); (try clear hk); (try clear hi); (try clear ho0)) | ((with_reducible refine gate_callee (f := 21) rfl ?_); refine goesL_ (some 52) rfl rfl Try.func21 (by kernel_rfl) rfl #[.slice none 0 0, .slice Ao8 t476.length co8] rfl (by (try simp only [List.map_toArray, List.map_cons, List.map_nil]); first | done | rfl | (simp only [List.length_drop, List.length_take]; rfl)) ?_; (refine (impl_DeltaOf.calls kj4 _ _ ([] : List ByteArray) _ _ t476 t501 _ ?side1 ?side2 ?side3 ?side4 A37.out).mono ?_); (case side1 => exact Kd.C_nil _ _); (case side2 => exact Nat.le_refl _); (case side3 => repeat (first | exact (Kd.R_reads' HO_4.out).2.2 | (with_reducible refine Kd.C_alloc ?_ _) | (with_reducible refine Kd.C_drewN ?_ _) | (with_reducible refine Kd.C_drew ?_))); (case side4 => exact (Kd.R_reads' HO_4.out).2.1); rintro e w77 ⟨v502, rfl, ho0, hb⟩; refine ⟨_, rfl, ?_⟩; have n0_ := Aside0.mk (Kd.R_below (by (with_reducible repeat (first | apply Kd.R_alloc | apply Kd.R_drewN | apply Kd.R_drew)); exact HO_3.out) hb); have n1_ := Aside0.mk (Kd.R_below (by (with_reducible repeat (first | apply Kd.R_alloc | apply Kd.R_drewN | apply Kd.R_drew)); exact HO_4.out) hb); have n2_ := Aside0.mk (Kd.S_elder' (by (with_reducible repeat (first | apply Kd.S_alloc | apply Kd.S_drewN | apply Kd.S_drew)); exact HO_5.out) (Kd.S_base ho0) hb); have n3_ := Aside0.mk (Kd.R_below (by (with_reducible repeat (first | apply Kd.R_alloc | apply Kd.R_drewN | apply Kd.R_drew)); exact HO497.out) hb); have n4_ := Aside0.mk (Kd.S_elder' (by (with_reducible repeat (first | apply Kd.S_alloc | apply Kd.S_drewN | apply Kd.S_drew)); exact HO500.out) (Kd.S_base ho0) hb); have n5_ := Aside0.mk (Kd.S_lower (Kd.S_new' (Kd.S_new' (Kd.S_new' (Kd.S_new' (Kd.S_new' ho0 (Kd.R_lt (by (with_reducible repeat (first | apply Kd.R_alloc | apply Kd.R_drewN | apply Kd.R_drew)); exact HO_3.out))) (Kd.R_lt (by (with_reducible repeat (first | apply Kd.R_alloc | apply Kd.R_drewN | apply Kd.R_drew)); exact HO_4.out))) (Kd.S_lt (by (with_reducible repeat (first | apply Kd.S_alloc | apply Kd.S_drewN | apply Kd.S_drew)); exact HO_5.out))) (Kd.R_lt (by (with_reducible repeat (first | apply Kd.R_alloc | apply Kd.R_drewN | apply Kd.R_drew)); exact HO497.out))) (Kd.S_lt (by (with_reducible repeat (first | apply Kd.S_alloc | apply Kd.S_drewN | apply Kd.S_drew)); exact HO500.out))) (below_size (by repeat (first | (with_reducible first | exact HB.out | apply below_alloc | apply pw_below_drewN | apply below_drew1) | exact HB.out)))); have n6_ := Aside0.mk (below_step (by repeat (first | (with_reducible first | exact HB.out | apply below_alloc | apply pw_below_drewN | apply below_drew1) | exact HB.out)) hb); clear HO_3; clear HO_4; clear HO_5; clear HO497; clear HO500; clear HB; have HO_3 := n0_; have HO_4 := n1_; have HO_5 := n2_; have HO497 := n3_; have HO500 := n4_; have HO503 := n5_; have HB := n6_; clear n0_ n1_ n2_ n3_ n4_ n5_ n6_; (try clear hb); (try clear hb2); (try clear hk); (try clear hi); (try clear ho0); obtain ⟨Ao78, co78, eo78⟩ := Kd.R_slice HO497.out; subst eo78) | (go_at_call 26; (with_reducible refine (laws_smTexts.calls kj4 _ _ t494 _ _ t476 true _ ?side1 ?side2 ?side3 ?side4 A39.out).mono ?_); (case side1 => repeat (first | exact (Kd.R_reads' HO497.out).2.2 | (with_reducible refine Kd.C_alloc ?_ _) | (with_reducible refine Kd.C_drewN ?_ _) | (with_reducible refine Kd.C_drew ?_))); (case side2 => exact (Kd.R_reads' HO497.out).2.1); (case side3 => repeat (first | exact (Kd.R_reads' HO_4.out).2.2 | (with_reducible refine Kd.C_alloc ?_ _) | (with_reducible refine Kd.C_drewN ?_ _) | (with_reducible refine Kd.C_drew ?_))); (case side4 => exact (Kd.R_reads' HO_4.out).2.1); rintro e w' ⟨rfl, ⟨nd, rfl⟩⟩) | (go_at_call 18; (with_reducible refine (impl_DeltaOk.calls kj4 _ _ t481 true _ ?side1 ?side2 A41.out).mono ?_); (case side1 => repeat (first | exact (Kd.S_reads' HO_5.out).2.2 | (with_reducible refine Kd.C_alloc ?_ _) | (with_reducible refine Kd.C_drewN ?_ _) | (with_reducible refine Kd.C_drew ?_))); (case side2 => exact (Kd.S_reads' HO_5.out).2.1); rintro e w79 ⟨rfl, hb⟩; have n0_ := Aside0.mk (Kd.R_below (by (with_reducible repeat (first | apply Kd.R_alloc | apply Kd.R_drewN | apply Kd.R_drew)); exact HO_3.out) hb); have n1_ := Aside0.mk (Kd.R_below (by (with_reducible repeat (first | apply Kd.R_alloc | apply Kd.R_drewN | apply Kd.R_drew)); exact HO_4.out) hb); have n2_ := Aside0.mk (Kd.S_below (by (with_reducible repeat (first | apply Kd.S_alloc | apply Kd.S_drewN | apply Kd.S_drew)); exact HO_5.out) hb); have n3_ := Aside0.mk (Kd.R_below (by (with_reducible repeat (first | apply Kd.R_alloc | apply Kd.R_drewN | apply Kd.R_drew)); exact HO497.out) hb); have n4_ := Aside0.mk (Kd.S_below (by (with_reducible repeat (first | apply Kd.S_alloc | apply Kd.S_drewN | apply Kd.S_drew)); exact HO500.out) hb); have n5_ := Aside0.mk (Kd.S_below (by (with_reducible repeat (first | apply Kd.S_alloc | apply Kd.S_drewN | apply Kd.S_drew)); exact HO503.out) hb); have n6_ := Aside0.mk (below_step (by repeat (first | (with_reducible first | exact HB.out | apply below_alloc | apply pw_below_drewN | apply below_drew1) | exact HB.out)) hb); clear HO_3; clear HO_4; clear HO_5; clear HO497; clear HO500; clear HO503; clear HB; have HO_3 := n0_; have HO_4 := n1_; have HO_5 := n2_; have HO497 := n3_; have HO500 := n4_; have HO503 := n5_; have HB := n6_; clear n0_ n1_ n2_ n3_ n4_ n5_ n6_; (try clear hb); (try clear hb2); (try clear hk); (try clear hi); obtain ⟨Ao80, co80, eo80⟩ := Kd.S_slice HO500.out; subst eo80; obtain ⟨Ao81, co81, eo81⟩ := Kd.S_slice HO503.out; subst eo81))
                 go_ret
                 exact ⟨by first | rfl | (simp [errW_none, errW_some] <;> rfl) | (simp [*, errW_none, errW_some] <;> rfl), by repeat (first | (with_reducible first | exact HB.out | apply below_alloc | apply pw_below_drewN | apply below_drew1) | exact HB.out)⟩
             · rw [if_neg c43] at H
               have c43b0 : decide ((t498.length : Int) ≤ 1) = false := decide_eq_false c43
               have c43b1 : decide (t498.length ≤ 1) = false := decide_eq_false (by omega)
               clear c43
               obtain rfl := Option.some.inj H
               obtain ⟨Ao82, co82, eo82⟩ := Kd.S_slice HO_5.out
               subst eo82
               go_wp2_with (first | ((with_reducible refine gate_callee (f := 25) rfl ?_); refine goesL_ (some 45) rfl rfl Try.func25 (by kernel_rfl) rfl #[.slice Ao7 t475.length co7, .slice Ao82 t481.length co82] rfl (by (try simp only [List.map_toArray, List.map_cons, List.map_nil]); first | done | rfl | (simp only [List.length_drop, List.length_take]; rfl)) ?_; (with_reducible refine (impl_DeltaDo.calls kj4 _ _ t475 _ _ t481 t494 true _ ?side1 ?side2 ?side3 ?side4 A35.out).mono ?_); (case side1 => repeat (first | exact (Kd.R_reads' HO_3.out).2.2 | (with_reducible refine Kd.C_alloc ?_ _) | (with_reducible refine Kd.C_drewN ?_ _) | (with_reducible refine Kd.C_drew ?_))); (case side2 => exact (Kd.R_reads' HO_3.out).2.1); (case side3 => repeat (first | exact (Kd.S_reads' HO_5.out).2.2 | (with_reducible refine Kd.C_alloc ?_ _) | (with_reducible refine Kd.C_drewN ?_ _) | (with_reducible refine Kd.C_drew ?_))); (case side4 => exact (Kd.S_reads' HO_5.out).2.1); rintro e w83 ⟨v496, rfl, ho0, hb⟩; refine ⟨_, rfl, ?_⟩; have n0_ := Aside0.mk (Kd.R_elder' (by (with_reducible repeat (first | apply Kd.R_alloc | apply Kd.R_drewN | apply Kd.R_drew)); exact HO_3.out) (Kd.R_base ho0) hb); have n1_ := Aside0.mk (Kd.R_elder' (by (with_reducible repeat (first | apply Kd.R_alloc | apply Kd.R_drewN | apply Kd.R_drew)); exact HO_4.out) (Kd.R_base ho0) hb); have n2_ := Aside0.mk (Kd.S_elder' (by (with_reducible repeat (first | apply Kd.S_alloc | apply Kd.S_drewN | apply Kd.S_drew)); exact HO_5.out) (Kd.R_base ho0) hb); have n3_ := Aside0.mk (Kd.R_lower (Kd.R_new' (Kd.R_new' ho0 (Kd.R_lt (by (with_reducible repeat (first | apply Kd.R_alloc | apply Kd.R_drewN | apply Kd.R_drew)); exact HO_3.out))) (Kd.R_lt (by (with_reducible repeat (first | apply Kd.R_alloc | apply Kd.R_drewN | apply Kd.R_drew)); exact HO_4.out))) (below_size (by repeat (first | (with_reducible first | exact HB.out | apply below_alloc | apply pw_below_drewN | apply below_drew1) | exact HB.out)))); have n4_ := Aside0.mk (below_step (by repeat (first | (with_reducible first | exact HB.out | apply below_alloc | apply pw_below_drewN | apply below_drew1) | exact HB.out)) hb); clear HO_3; clear HO_4; clear HO_5; clear HB; have HO_3 := n0_; have HO_4 := n1_; have HO_5 := n2_; have HO497 := n3_; have HB := n4_; clear n0_ n1_ n2_ n3_ n4_; (try clear hb); (try clear hb2); (try clear hk); (try clear hi); (try clear ho0)) | ((with_reducible refine gate_callee (f := 21) rfl ?_); refine goesL_ (some 50) rfl rfl Try.func21 (by kernel_rfl) rfl #[.slice Ao8 t476.length co8, .slice Ao8 t476.length co8] rfl (by (try simp only [List.map_toArray, List.map_cons, List.map_nil]); first | done | rfl | (simp only [List.length_drop, List.length_take]; rfl)) ?_; (with_reducible refine (impl_DeltaOf.calls kj4 _ _ t476 _ _ t476 t498 _ ?side1 ?side2 ?side3 ?side4 A36.out).mono ?_); (case side1 => repeat (first | exact (Kd.R_reads' HO_4.out).2.2 | (with_reducible refine Kd.C_alloc ?_ _) | (with_reducible refine Kd.C_drewN ?_ _) | (with_reducible refine Kd.C_drew ?_))); (case side2 => exact (Kd.R_reads' HO_4.out).2.1); (case side3 => repeat (first | exact (Kd.R_reads' HO_4.out).2.2 | (with_reducible refine Kd.C_alloc ?_ _) | (with_reducible refine Kd.C_drewN ?_ _) | (with_reducible refine Kd.C_drew ?_))); (case side4 => exact (Kd.R_reads' HO_4.out).2.1); rintro e w84 ⟨v499, rfl, ho0, hb⟩; refine ⟨_, rfl, ?_⟩; have n0_ := Aside0.mk (Kd.R_below (by (with_reducible repeat (first | apply Kd.R_alloc | apply Kd.R_drewN | apply Kd.R_drew)); exact HO_3.out) hb); have n1_ := Aside0.mk (Kd.R_below (by (with_reducible repeat (first | apply Kd.R_alloc | apply Kd.R_drewN | apply Kd.R_drew)); exact HO_4.out) hb); have n2_ := Aside0.mk (Kd.S_elder' (by (with_reducible repeat (first | apply Kd.S_alloc | apply Kd.S_drewN | apply Kd.S_drew)); exact HO_5.out) (Kd.S_base ho0) hb); have n3_ := Aside0.mk (Kd.R_below (by (with_reducible repeat (first | apply Kd.R_alloc | apply Kd.R_drewN | apply Kd.R_drew)); exact HO497.out) hb); have n4_ := Aside0.mk (Kd.S_lower (Kd.S_new' (Kd.S_new' (Kd.S_new' (Kd.S_new' ho0 (Kd.R_lt (by (with_reducible repeat (first | apply Kd.R_alloc | apply Kd.R_drewN | apply Kd.R_drew)); exact HO_3.out))) (Kd.R_lt (by (with_reducible repeat (first | apply Kd.R_alloc | apply Kd.R_drewN | apply Kd.R_drew)); exact HO_4.out))) (Kd.S_lt (by (with_reducible repeat (first | apply Kd.S_alloc | apply Kd.S_drewN | apply Kd.S_drew)); exact HO_5.out))) (Kd.R_lt (by (with_reducible repeat (first | apply Kd.R_alloc | apply Kd.R_drewN | apply Kd.R_drew)); exact HO497.out))) (below_size (by repeat (first | (with_reducible first | exact HB.out | apply below_alloc | apply pw_below_drewN | apply below_drew1) | exact HB.out)))); have n5_ := Aside0.mk (below_step (by repeat (first | (with_reducible first | exact HB.out | apply below_alloc | apply pw_below_drewN | apply below_drew1) | exact HB.out)) hb); clear HO_3; clear HO_4; clear HO_5; clear HO497; clear HB; have HO_3 := n0_; have HO_4 := n1_; have HO_5 := n2_; have HO497 := n3_; have HO500 := n4_; have HB := n5_; clear n0_ n1_ n2_ n3_ n4_ n5_; (try clear hb); (try clear hb2); (try clear hk); (try clear hi); (try clear ho0)) | ((with_reducible refine gate_callee (f := 21) rfl ?_); refine goesL_ (some 52) rfl rfl Try.func21 (by kernel_rfl) rfl #[.slice none 0 0, .slice Ao8 t476.length co8] rfl (by (try simp only [List.map_toArray, List.map_cons, List.map_nil]); first | done | rfl | (simp only [List.length_drop, List.length_take]; rfl)) ?_; (refine (impl_DeltaOf.calls kj4 _ _ ([] : List ByteArray) _ _ t476 t501 _ ?side1 ?side2 ?side3 ?side4 A37.out).mono ?_); (case side1 => exact Kd.C_nil _ _); (case side2 => exact Nat.le_refl _); (case side3 => repeat (first | exact (Kd.R_reads' HO_4.out).2.2 | (with_reducible refine Kd.C_alloc ?_ _) | (with_reducible refine Kd.C_drewN ?_ _) | (with_reducible refine Kd.C_drew ?_))); (case side4 => exact (Kd.R_reads' HO_4.out).2.1); rintro e w85 ⟨v502, rfl, ho0, hb⟩; refine ⟨_, rfl, ?_⟩; have n0_ := Aside0.mk (Kd.R_below (by (with_reducible repeat (first | apply Kd.R_alloc | apply Kd.R_drewN | apply Kd.R_drew)); exact HO_3.out) hb); have n1_ := Aside0.mk (Kd.R_below (by (with_reducible repeat (first | apply Kd.R_alloc | apply Kd.R_drewN | apply Kd.R_drew)); exact HO_4.out) hb); have n2_ := Aside0.mk (Kd.S_elder' (by (with_reducible repeat (first | apply Kd.S_alloc | apply Kd.S_drewN | apply Kd.S_drew)); exact HO_5.out) (Kd.S_base ho0) hb); have n3_ := Aside0.mk (Kd.R_below (by (with_reducible repeat (first | apply Kd.R_alloc | apply Kd.R_drewN | apply Kd.R_drew)); exact HO497.out) hb); have n4_ := Aside0.mk (Kd.S_elder' (by (with_reducible repeat (first | apply Kd.S_alloc | apply Kd.S_drewN | apply Kd.S_drew)); exact HO500.out) (Kd.S_base ho0) hb); have n5_ := Aside0.mk (Kd.S_lower (Kd.S_new' (Kd.S_new' (Kd.S_new' (Kd.S_new' (Kd.S_new' ho0 (Kd.R_lt (by (with_reducible repeat (first | apply Kd.R_alloc | apply Kd.R_drewN | apply Kd.R_drew)); exact HO_3.out))) (Kd.R_lt (by (with_reducible repeat (first | apply Kd.R_alloc | apply Kd.R_drewN | apply Kd.R_drew)); exact HO_4.out))) (Kd.S_lt (by (with_reducible repeat (first | apply Kd.S_alloc | apply Kd.S_drewN | apply Kd.S_drew)); exact HO_5.out))) (Kd.R_lt (by (with_reducible repeat (first | apply Kd.R_alloc | apply Kd.R_drewN | apply Kd.R_drew)); exact HO497.out))) (Kd.S_lt (by (with_reducible repeat (first | apply Kd.S_alloc | apply Kd.S_drewN | apply Kd.S_drew)); exact HO500.out))) (below_size (by repeat (first | (with_reducible first | exact HB.out | apply below_alloc | apply pw_below_drewN | apply below_drew1) | exact HB.out)))); have n6_ := Aside0.mk (below_step (by repeat (first | (with_reducible first | exact HB.out | apply below_alloc | apply pw_below_drewN | apply below_drew1) | exact HB.out)) hb); clear HO_3; clear HO_4; clear HO_5; clear HO497; clear HO500; clear HB; have HO_3 := n0_; have HO_4 := n1_; have HO_5 := n2_; have HO497 := n3_; have HO500 := n4_; have HO503 := n5_; have HB := n6_; clear n0_ n1_ n2_ n3_ n4_ n5_ n6_; (try clear hb); (try clear hb2); (try clear hk); (try clear hi); (try clear ho0); obtain ⟨Ao86, co86, eo86⟩ := Kd.R_slice HO497.out; subst eo86) | (go_at_call 26; (with_reducible refine (laws_smTexts.calls kj4 _ _ t494 _ _ t476 true _ ?side1 ?side2 ?side3 ?side4 A39.out).mono ?_); (case side1 => repeat (first | exact (Kd.R_reads' HO497.out).2.2 | (with_reducible refine Kd.C_alloc ?_ _) | (with_reducible refine Kd.C_drewN ?_ _) | (with_reducible refine Kd.C_drew ?_))); (case side2 => exact (Kd.R_reads' HO497.out).2.1); (case side3 => repeat (first | exact (Kd.R_reads' HO_4.out).2.2 | (with_reducible refine Kd.C_alloc ?_ _) | (with_reducible refine Kd.C_drewN ?_ _) | (with_reducible refine Kd.C_drew ?_))); (case side4 => exact (Kd.R_reads' HO_4.out).2.1); rintro e w' ⟨rfl, ⟨nd, rfl⟩⟩) | (go_at_call 18; (with_reducible refine (impl_DeltaOk.calls kj4 _ _ t481 true _ ?side1 ?side2 A41.out).mono ?_); (case side1 => repeat (first | exact (Kd.S_reads' HO_5.out).2.2 | (with_reducible refine Kd.C_alloc ?_ _) | (with_reducible refine Kd.C_drewN ?_ _) | (with_reducible refine Kd.C_drew ?_))); (case side2 => exact (Kd.S_reads' HO_5.out).2.1); rintro e w87 ⟨rfl, hb⟩; have n0_ := Aside0.mk (Kd.R_below (by (with_reducible repeat (first | apply Kd.R_alloc | apply Kd.R_drewN | apply Kd.R_drew)); exact HO_3.out) hb); have n1_ := Aside0.mk (Kd.R_below (by (with_reducible repeat (first | apply Kd.R_alloc | apply Kd.R_drewN | apply Kd.R_drew)); exact HO_4.out) hb); have n2_ := Aside0.mk (Kd.S_below (by (with_reducible repeat (first | apply Kd.S_alloc | apply Kd.S_drewN | apply Kd.S_drew)); exact HO_5.out) hb); have n3_ := Aside0.mk (Kd.R_below (by (with_reducible repeat (first | apply Kd.R_alloc | apply Kd.R_drewN | apply Kd.R_drew)); exact HO497.out) hb); have n4_ := Aside0.mk (Kd.S_below (by (with_reducible repeat (first | apply Kd.S_alloc | apply Kd.S_drewN | apply Kd.S_drew)); exact HO500.out) hb); have n5_ := Aside0.mk (Kd.S_below (by (with_reducible repeat (first | apply Kd.S_alloc | apply Kd.S_drewN | apply Kd.S_drew)); exact HO503.out) hb); have n6_ := Aside0.mk (below_step (by repeat (first | (with_reducible first | exact HB.out | apply below_alloc | apply pw_below_drewN | apply below_drew1) | exact HB.out)) hb); clear HO_3; clear HO_4; clear HO_5; clear HO497; clear HO500; clear HO503; clear HB; have HO_3 := n0_; have HO_4 := n1_; have HO_5 := n2_; have HO497 := n3_; have HO500 := n4_; have HO503 := n5_; have HB := n6_; clear n0_ n1_ n2_ n3_ n4_ n5_ n6_; (try clear hb); (try clear hb2); (try clear hk); (try clear hi); obtain ⟨Ao88, co88, eo88⟩ := Kd.S_slice HO500.out; subst eo88))
               go_ret
               exact ⟨by first | rfl | (simp [errW_none, errW_some] <;> rfl) | (simp [*, errW_none, errW_some] <;> rfl), by repeat (first | (with_reducible first | exact HB.out | apply below_alloc | apply pw_below_drewN | apply below_drew1) | exact HB.out)⟩
           · replace c42 := Bool.eq_false_iff.mpr c42
             subst c42
             have H1 : (some false) = some r := by rw [if_neg (show ¬ (false = true) by decide)] at H; exact H
             clear H
             have H := H1
             clear H1
             obtain rfl := Option.some.inj H
             obtain ⟨Ao89, co89, eo89⟩ := Kd.S_slice HO_5.out
             subst eo89
             go_wp2_with (first | ((with_reducible refine gate_callee (f := 25) rfl ?_); refine goesL_ (some 45) rfl rfl Try.func25 (by kernel_rfl) rfl #[.slice Ao7 t475.length co7, .slice Ao89 t481.length co89] rfl (by (try simp only [List.map_toArray, List.map_cons, List.map_nil]); first | done | rfl | (simp only [List.length_drop, List.length_take]; rfl)) ?_; (with_reducible refine (impl_DeltaDo.calls kj4 _ _ t475 _ _ t481 t494 true _ ?side1 ?side2 ?side3 ?side4 A35.out).mono ?_); (case side1 => repeat (first | exact (Kd.R_reads' HO_3.out).2.2 | (with_reducible refine Kd.C_alloc ?_ _) | (with_reducible refine Kd.C_drewN ?_ _) | (with_reducible refine Kd.C_drew ?_))); (case side2 => exact (Kd.R_reads' HO_3.out).2.1); (case side3 => repeat (first | exact (Kd.S_reads' HO_5.out).2.2 | (with_reducible refine Kd.C_alloc ?_ _) | (with_reducible refine Kd.C_drewN ?_ _) | (with_reducible refine Kd.C_drew ?_))); (case side4 => exact (Kd.S_reads' HO_5.out).2.1); rintro e w90 ⟨v496, rfl, ho0, hb⟩; refine ⟨_, rfl, ?_⟩; have n0_ := Aside0.mk (Kd.R_elder' (by (with_reducible repeat (first | apply Kd.R_alloc | apply Kd.R_drewN | apply Kd.R_drew)); exact HO_3.out) (Kd.R_base ho0) hb); have n1_ := Aside0.mk (Kd.R_elder' (by (with_reducible repeat (first | apply Kd.R_alloc | apply Kd.R_drewN | apply Kd.R_drew)); exact HO_4.out) (Kd.R_base ho0) hb); have n2_ := Aside0.mk (Kd.S_elder' (by (with_reducible repeat (first | apply Kd.S_alloc | apply Kd.S_drewN | apply Kd.S_drew)); exact HO_5.out) (Kd.R_base ho0) hb); have n3_ := Aside0.mk (Kd.R_lower (Kd.R_new' (Kd.R_new' ho0 (Kd.R_lt (by (with_reducible repeat (first | apply Kd.R_alloc | apply Kd.R_drewN | apply Kd.R_drew)); exact HO_3.out))) (Kd.R_lt (by (with_reducible repeat (first | apply Kd.R_alloc | apply Kd.R_drewN | apply Kd.R_drew)); exact HO_4.out))) (below_size (by repeat (first | (with_reducible first | exact HB.out | apply below_alloc | apply pw_below_drewN | apply below_drew1) | exact HB.out)))); have n4_ := Aside0.mk (below_step (by repeat (first | (with_reducible first | exact HB.out | apply below_alloc | apply pw_below_drewN | apply below_drew1) | exact HB.out)) hb); clear HO_3; clear HO_4; clear HO_5; clear HB; have HO_3 := n0_; have HO_4 := n1_; have HO_5 := n2_; have HO497 := n3_; have HB := n4_; clear n0_ n1_ n2_ n3_ n4_; (try clear hb); (try clear hb2); (try clear hk); (try clear hi); (try clear ho0)) | ((with_reducible refine gate_callee (f := 21) rfl ?_); refine goesL_ (some 50) rfl rfl Try.func21 (by kernel_rfl) rfl #[.slice Ao8 t476.length co8, .slice Ao8 t476.length co8] rfl (by (try simp only [List.map_toArray, List.map_cons, List.map_nil]); first | done | rfl | (simp only [List.length_drop, List.length_take]; rfl)) ?_; (with_reducible refine (impl_DeltaOf.calls kj4 _ _ t476 _ _ t476 t498 _ ?side1 ?side2 ?side3 ?side4 A36.out).mono ?_); (case side1 => repeat (first | exact (Kd.R_reads' HO_4.out).2.2 | (with_reducible refine Kd.C_alloc ?_ _) | (with_reducible refine Kd.C_drewN ?_ _) | (with_reducible refine Kd.C_drew ?_))); (case side2 => exact (Kd.R_reads' HO_4.out).2.1); (case side3 => repeat (first | exact (Kd.R_reads' HO_4.out).2.2 | (with_reducible refine Kd.C_alloc ?_ _) | (with_reducible refine Kd.C_drewN ?_ _) | (with_reducible refine Kd.C_drew ?_))); (case side4 => exact (Kd.R_reads' HO_4.out).2.1); rintro e w91 ⟨v499, rfl, ho0, hb⟩; refine ⟨_, rfl, ?_⟩; have n0_ := Aside0.mk (Kd.R_below (by (with_reducible repeat (first | apply Kd.R_alloc | apply Kd.R_drewN | apply Kd.R_drew)); exact HO_3.out) hb); have n1_ := Aside0.mk (Kd.R_below (by (with_reducible repeat (first | apply Kd.R_alloc | apply Kd.R_drewN | apply Kd.R_drew)); exact HO_4.out) hb); have n2_ := Aside0.mk (Kd.S_elder' (by (with_reducible repeat (first | apply Kd.S_alloc | apply Kd.S_drewN | apply Kd.S_drew)); exact HO_5.out) (Kd.S_base ho0) hb); have n3_ := Aside0.mk (Kd.R_below (by (with_reducible repeat (first | apply Kd.R_alloc | apply Kd.R_drewN | apply Kd.R_drew)); exact HO497.out) hb); have n4_ := Aside0.mk (Kd.S_lower (Kd.S_new' (Kd.S_new' (Kd.S_new' (Kd.S_new' ho0 (Kd.R_lt (by (with_reducible repeat (first | apply Kd.R_alloc | apply Kd.R_drewN | apply Kd.R_drew)); exact HO_3.out))) (Kd.R_lt (by (with_reducible repeat (first | apply Kd.R_alloc | apply Kd.R_drewN | apply Kd.R_drew)); exact HO_4.out))) (Kd.S_lt (by (with_reducible repeat (first | apply Kd.S_alloc | apply Kd.S_drewN | apply Kd.S_drew)); exact HO_5.out))) (Kd.R_lt (by (with_reducible repeat (first | apply Kd.R_alloc | apply Kd.R_drewN | apply Kd.R_drew)); exact HO497.out))) (below_size (by repeat (first | (with_reducible first | exact HB.out | apply below_alloc | apply pw_below_drewN | apply below_drew1) | exact HB.out)))); have n5_ := Aside0.mk (below_step (by repeat (first | (with_reducible first | exact HB.out | apply below_alloc | apply pw_below_drewN | apply below_drew1) | exact HB.out)) hb); clear HO_3; clear HO_4; clear HO_5; clear HO497; clear HB; have HO_3 := n0_; have HO_4 := n1_; have HO_5 := n2_; have HO497 := n3_; have HO500 := n4_; have HB := n5_; clear n0_ n1_ n2_ n3_ n4_ n5_; (try clear hb); (try clear hb2); (try clear hk); (try clear hi); (try clear ho0)) | ((with_reducible refine gate_callee (f := 21) rfl ?_); refine goesL_ (some 52) rfl rfl Try.func21 (by kernel_rfl) rfl #[.slice none 0 0, .slice Ao8 t476.length co8] rfl (by (try simp only [List.map_toArray, List.map_cons, List.map_nil]); first | done | rfl | (simp only [List.length_drop, List.length_take]; rfl)) ?_; (refine (impl_DeltaOf.calls kj4 _ _ ([] : List ByteArray) _ _ t476 t501 _ ?side1 ?side2 ?side3 ?side4 A37.out).mono ?_); (case side1 => exact Kd.C_nil _ _); (case side2 => exact Nat.le_refl _); (case side3 => repeat (first | exact (Kd.R_reads' HO_4.out).2.2 | (with_reducible refine Kd.C_alloc ?_ _) | (with_reducible refine Kd.C_drewN ?_ _) | (with_reducible refine Kd.C_drew ?_))); (case side4 => exact (Kd.R_reads' HO_4.out).2.1); rintro e w92 ⟨v502, rfl, ho0, hb⟩; refine ⟨_, rfl, ?_⟩; have n0_ := Aside0.mk (Kd.R_below (by (with_reducible repeat (first | apply Kd.R_alloc | apply Kd.R_drewN | apply Kd.R_drew)); exact HO_3.out) hb); have n1_ := Aside0.mk (Kd.R_below (by (with_reducible repeat (first | apply Kd.R_alloc | apply Kd.R_drewN | apply Kd.R_drew)); exact HO_4.out) hb); have n2_ := Aside0.mk (Kd.S_elder' (by (with_reducible repeat (first | apply Kd.S_alloc | apply Kd.S_drewN | apply Kd.S_drew)); exact HO_5.out) (Kd.S_base ho0) hb); have n3_ := Aside0.mk (Kd.R_below (by (with_reducible repeat (first | apply Kd.R_alloc | apply Kd.R_drewN | apply Kd.R_drew)); exact HO497.out) hb); have n4_ := Aside0.mk (Kd.S_elder' (by (with_reducible repeat (first | apply Kd.S_alloc | apply Kd.S_drewN | apply Kd.S_drew)); exact HO500.out) (Kd.S_base ho0) hb); have n5_ := Aside0.mk (Kd.S_lower (Kd.S_new' (Kd.S_new' (Kd.S_new' (Kd.S_new' (Kd.S_new' ho0 (Kd.R_lt (by (with_reducible repeat (first | apply Kd.R_alloc | apply Kd.R_drewN | apply Kd.R_drew)); exact HO_3.out))) (Kd.R_lt (by (with_reducible repeat (first | apply Kd.R_alloc | apply Kd.R_drewN | apply Kd.R_drew)); exact HO_4.out))) (Kd.S_lt (by (with_reducible repeat (first | apply Kd.S_alloc | apply Kd.S_drewN | apply Kd.S_drew)); exact HO_5.out))) (Kd.R_lt (by (with_reducible repeat (first | apply Kd.R_alloc | apply Kd.R_drewN | apply Kd.R_drew)); exact HO497.out))) (Kd.S_lt (by (with_reducible repeat (first | apply Kd.S_alloc | apply Kd.S_drewN | apply Kd.S_drew)); exact HO500.out))) (below_size (by repeat (first | (with_reducible first | exact HB.out | apply below_alloc | apply pw_below_drewN | apply below_drew1) | exact HB.out)))); have n6_ := Aside0.mk (below_step (by repeat (first | (with_reducible first | exact HB.out | apply below_alloc | apply pw_below_drewN | apply below_drew1) | exact HB.out)) hb); clear HO_3; clear HO_4; clear HO_5; clear HO497; clear HO500; clear HB; have HO_3 := n0_; have HO_4 := n1_; have HO_5 := n2_; have HO497 := n3_; have HO500 := n4_; have HO503 := n5_; have HB := n6_; clear n0_ n1_ n2_ n3_ n4_ n5_ n6_; (try clear hb); (try clear hb2); (try clear hk); (try clear hi); (try clear ho0); obtain ⟨Ao93, co93, eo93⟩ := Kd.R_slice HO497.out; subst eo93) | (go_at_call 26; (with_reducible refine (laws_smTexts.calls kj4 _ _ t494 _ _ t476 true _ ?side1 ?side2 ?side3 ?side4 A39.out).mono ?_); (case side1 => repeat (first | exact (Kd.R_reads' HO497.out).2.2 | (with_reducible refine Kd.C_alloc ?_ _) | (with_reducible refine Kd.C_drewN ?_ _) | (with_reducible refine Kd.C_drew ?_))); (case side2 => exact (Kd.R_reads' HO497.out).2.1); (case side3 => repeat (first | exact (Kd.R_reads' HO_4.out).2.2 | (with_reducible refine Kd.C_alloc ?_ _) | (with_reducible refine Kd.C_drewN ?_ _) | (with_reducible refine Kd.C_drew ?_))); (case side4 => exact (Kd.R_reads' HO_4.out).2.1); rintro e w' ⟨rfl, ⟨nd, rfl⟩⟩) | (go_at_call 18; (with_reducible refine (impl_DeltaOk.calls kj4 _ _ t481 false _ ?side1 ?side2 A41.out).mono ?_); (case side1 => repeat (first | exact (Kd.S_reads' HO_5.out).2.2 | (with_reducible refine Kd.C_alloc ?_ _) | (with_reducible refine Kd.C_drewN ?_ _) | (with_reducible refine Kd.C_drew ?_))); (case side2 => exact (Kd.S_reads' HO_5.out).2.1); rintro e w94 ⟨rfl, hb⟩; have n0_ := Aside0.mk (Kd.R_below (by (with_reducible repeat (first | apply Kd.R_alloc | apply Kd.R_drewN | apply Kd.R_drew)); exact HO_3.out) hb); have n1_ := Aside0.mk (Kd.R_below (by (with_reducible repeat (first | apply Kd.R_alloc | apply Kd.R_drewN | apply Kd.R_drew)); exact HO_4.out) hb); have n2_ := Aside0.mk (Kd.S_below (by (with_reducible repeat (first | apply Kd.S_alloc | apply Kd.S_drewN | apply Kd.S_drew)); exact HO_5.out) hb); have n3_ := Aside0.mk (Kd.R_below (by (with_reducible repeat (first | apply Kd.R_alloc | apply Kd.R_drewN | apply Kd.R_drew)); exact HO497.out) hb); have n4_ := Aside0.mk (Kd.S_below (by (with_reducible repeat (first | apply Kd.S_alloc | apply Kd.S_drewN | apply Kd.S_drew)); exact HO500.out) hb); have n5_ := Aside0.mk (Kd.S_below (by (with_reducible repeat (first | apply Kd.S_alloc | apply Kd.S_drewN | apply Kd.S_drew)); exact HO503.out) hb); have n6_ := Aside0.mk (below_step (by repeat (first | (with_reducible first | exact HB.out | apply below_alloc | apply pw_below_drewN | apply below_drew1) | exact HB.out)) hb); clear HO_3; clear HO_4; clear HO_5; clear HO497; clear HO500; clear HO503; clear HB; have HO_3 := n0_; have HO_4 := n1_; have HO_5 := n2_; have HO497 := n3_; have HO500 := n4_; have HO503 := n5_; have HB := n6_; clear n0_ n1_ n2_ n3_ n4_ n5_ n6_; (try clear hb); (try clear hb2); (try clear hk); (try clear hi)))
             go_ret
             exact ⟨by first | rfl | (simp [errW_none, errW_some] <;> rfl) | (simp [*, errW_none, errW_some] <;> rfl), by repeat (first | (with_reducible first | exact HB.out | apply below_alloc | apply pw_below_drewN | apply below_drew1) | exact HB.out)⟩
         · replace c40 := Bool.eq_false_iff.mpr c40
           subst c40
           have H1 : (some false) = some r := by rw [if_neg (show ¬ (false = true) by decide)] at H; exact H
           clear H
           have H := H1
           clear H1
           obtain rfl := Option.some.inj H
           obtain ⟨Ao95, co95, eo95⟩ := Kd.S_slice HO_5.out
           subst eo95
           go_wp2_with (first | ((with_reducible refine gate_callee (f := 25) rfl ?_); refine goesL_ (some 45) rfl rfl Try.func25 (by kernel_rfl) rfl #[.slice Ao7 t475.length co7, .slice Ao95 t481.length co95] rfl (by (try simp only [List.map_toArray, List.map_cons, List.map_nil]); first | done | rfl | (simp only [List.length_drop, List.length_take]; rfl)) ?_; (with_reducible refine (impl_DeltaDo.calls kj4 _ _ t475 _ _ t481 t494 true _ ?side1 ?side2 ?side3 ?side4 A35.out).mono ?_); (case side1 => repeat (first | exact (Kd.R_reads' HO_3.out).2.2 | (with_reducible refine Kd.C_alloc ?_ _) | (with_reducible refine Kd.C_drewN ?_ _) | (with_reducible refine Kd.C_drew ?_))); (case side2 => exact (Kd.R_reads' HO_3.out).2.1); (case side3 => repeat (first | exact (Kd.S_reads' HO_5.out).2.2 | (with_reducible refine Kd.C_alloc ?_ _) | (with_reducible refine Kd.C_drewN ?_ _) | (with_reducible refine Kd.C_drew ?_))); (case side4 => exact (Kd.S_reads' HO_5.out).2.1); rintro e w96 ⟨v496, rfl, ho0, hb⟩; refine ⟨_, rfl, ?_⟩; have n0_ := Aside0.mk (Kd.R_elder' (by (with_reducible repeat (first | apply Kd.R_alloc | apply Kd.R_drewN | apply Kd.R_drew)); exact HO_3.out) (Kd.R_base ho0) hb); have n1_ := Aside0.mk (Kd.R_elder' (by (with_reducible repeat (first | apply Kd.R_alloc | apply Kd.R_drewN | apply Kd.R_drew)); exact HO_4.out) (Kd.R_base ho0) hb); have n2_ := Aside0.mk (Kd.S_elder' (by (with_reducible repeat (first | apply Kd.S_alloc | apply Kd.S_drewN | apply Kd.S_drew)); exact HO_5.out) (Kd.R_base ho0) hb); have n3_ := Aside0.mk (Kd.R_lower (Kd.R_new' (Kd.R_new' ho0 (Kd.R_lt (by (with_reducible repeat (first | apply Kd.R_alloc | apply Kd.R_drewN | apply Kd.R_drew)); exact HO_3.out))) (Kd.R_lt (by (with_reducible repeat (first | apply Kd.R_alloc | apply Kd.R_drewN | apply Kd.R_drew)); exact HO_4.out))) (below_size (by repeat (first | (with_reducible first | exact HB.out | apply below_alloc | apply pw_below_drewN | apply below_drew1) | exact HB.out)))); have n4_ := Aside0.mk (below_step (by repeat (first | (with_reducible first | exact HB.out | apply below_alloc | apply pw_below_drewN | apply below_drew1) | exact HB.out)) hb); clear HO_3; clear HO_4; clear HO_5; clear HB; have HO_3 := n0_; have HO_4 := n1_; have HO_5 := n2_; have HO497 := n3_; have HB := n4_; clear n0_ n1_ n2_ n3_ n4_; (try clear hb); (try clear hb2); (try clear hk); (try clear hi); (try clear ho0)) | ((with_reducible refine gate_callee (f := 21) rfl ?_); refine goesL_ (some 50) rfl rfl Try.func21 (by kernel_rfl) rfl #[.slice Ao8 t476.length co8, .slice Ao8 t476.length co8] rfl (by (try simp only [List.map_toArray, List.map_cons, List.map_nil]); first | done | rfl | (simp only [List.length_drop, List.length_take]; rfl)) ?_; (with_reducible refine (impl_DeltaOf.calls kj4 _ _ t476 _ _ t476 t498 _ ?side1 ?side2 ?side3 ?side4 A36.out).mono ?_); (case side1 => repeat (first | exact (Kd.R_reads' HO_4.out).2.2 | (with_reducible refine Kd.C_alloc ?_ _) | (with_reducible refine Kd.C_drewN ?_ _) | (with_reducible refine Kd.C_drew ?_))); (case side2 => exact (Kd.R_reads' HO_4.out).2.1); (case side3 => repeat (first | exact (Kd.R_reads' HO_4.out).2.2 | (with_reducible refine Kd.C_alloc ?_ _) | (with_reducible refine Kd.C_drewN ?_ _) | (with_reducible refine Kd.C_drew ?_))); (case side4 => exact (Kd.R_reads' HO_4.out).2.1); rintro e w97 ⟨v499, rfl, ho0, hb⟩; refine ⟨_, rfl, ?_⟩; have n0_ := Aside0.mk (Kd.R_below (by (with_reducible repeat (first | apply Kd.R_alloc | apply Kd.R_drewN | apply Kd.R_drew)); exact HO_3.out) hb); have n1_ := Aside0.mk (Kd.R_below (by (with_reducible repeat (first | apply Kd.R_alloc | apply Kd.R_drewN | apply Kd.R_drew)); exact HO_4.out) hb); have n2_ := Aside0.mk (Kd.S_elder' (by (with_reducible repeat (first | apply Kd.S_alloc | apply Kd.S_drewN | apply Kd.S_drew)); exact HO_5.out) (Kd.S_base ho0) hb); have n3_ := Aside0.mk (Kd.R_below (by (with_reducible repeat (first | apply Kd.R_alloc | apply Kd.R_drewN | apply Kd.R_drew)); exact HO497.out) hb); have n4_ := Aside0.mk (Kd.S_lower (Kd.S_new' (Kd.S_new' (Kd.S_new' (Kd.S_new' ho0 (Kd.R_lt (by (with_reducible repeat (first | apply Kd.R_alloc | apply Kd.R_drewN | apply Kd.R_drew)); exact HO_3.out))) (Kd.R_lt (by (with_reducible repeat (first | apply Kd.R_alloc | apply Kd.R_drewN | apply Kd.R_drew)); exact HO_4.out))) (Kd.S_lt (by (with_reducible repeat (first | apply Kd.S_alloc | apply Kd.S_drewN | apply Kd.S_drew)); exact HO_5.out))) (Kd.R_lt (by (with_reducible repeat (first | apply Kd.R_alloc | apply Kd.R_drewN | apply Kd.R_drew)); exact HO497.out))) (below_size (by repeat (first | (with_reducible first | exact HB.out | apply below_alloc | apply pw_below_drewN | apply below_drew1) | exact HB.out)))); have n5_ := Aside0.mk (below_step (by repeat (first | (with_reducible first | exact HB.out | apply below_alloc | apply pw_below_drewN | apply below_drew1) | exact HB.out)) hb); clear HO_3; clear HO_4; clear HO_5; clear HO497; clear HB; have HO_3 := n0_; have HO_4 := n1_; have HO_5 := n2_; have HO497 := n3_; have HO500 := n4_; have HB := n5_; clear n0_ n1_ n2_ n3_ n4_ n5_; (try clear hb); (try clear hb2); (try clear hk); (try clear hi); (try clear ho0)) | ((with_reducible refine gate_callee (f := 21) rfl ?_); refine goesL_ (some 52) rfl rfl Try.func21 (by kernel_rfl) rfl #[.slice none 0 0, .slice Ao8 t476.length co8] rfl (by (try simp only [List.map_toArray, List.map_cons, List.map_nil]); first | done | rfl | (simp only [List.length_drop, List.length_take]; rfl)) ?_; (refine (impl_DeltaOf.calls kj4 _ _ ([] : List ByteArray) _ _ t476 t501 _ ?side1 ?side2 ?side3 ?side4 A37.out).mono ?_); (case side1 => exact Kd.C_nil _ _); (case side2 => exact Nat.le_refl _); (case side3 => repeat (first | exact (Kd.R_reads' HO_4.out).2.2 | (with_reducible refine Kd.C_alloc ?_ _) | (with_reducible refine Kd.C_drewN ?_ _) | (with_reducible refine Kd.C_drew ?_))); (case side4 => exact (Kd.R_reads' HO_4.out).2.1); rintro e w98 ⟨v502, rfl, ho0, hb⟩; refine ⟨_, rfl, ?_⟩; have n0_ := Aside0.mk (Kd.R_below (by (with_reducible repeat (first | apply Kd.R_alloc | apply Kd.R_drewN | apply Kd.R_drew)); exact HO_3.out) hb); have n1_ := Aside0.mk (Kd.R_below (by (with_reducible repeat (first | apply Kd.R_alloc | apply Kd.R_drewN | apply Kd.R_drew)); exact HO_4.out) hb); have n2_ := Aside0.mk (Kd.S_elder' (by (with_reducible repeat (first | apply Kd.S_alloc | apply Kd.S_drewN | apply Kd.S_drew)); exact HO_5.out) (Kd.S_base ho0) hb); have n3_ := Aside0.mk (Kd.R_below (by (with_reducible repeat (first | apply Kd.R_alloc | apply Kd.R_drewN | apply Kd.R_drew)); exact HO497.out) hb); have n4_ := Aside0.mk (Kd.S_elder' (by (with_reducible repeat (first | apply Kd.S_alloc | apply Kd.S_drewN | apply Kd.S_drew)); exact HO500.out) (Kd.S_base ho0) hb); have n5_ := Aside0.mk (Kd.S_lower (Kd.S_new' (Kd.S_new' (Kd.S_new' (Kd.S_new' (Kd.S_new' ho0 (Kd.R_lt (by (with_reducible repeat (first | apply Kd.R_alloc | apply Kd.R_drewN | apply Kd.R_drew)); exact HO_3.out))) (Kd.R_lt (by (with_reducible repeat (first | apply Kd.R_alloc | apply Kd.R_drewN | apply Kd.R_drew)); exact HO_4.out))) (Kd.S_lt (by (with_reducible repeat (first | apply Kd.S_alloc | apply Kd.S_drewN | apply Kd.S_drew)); exact HO_5.out))) (Kd.R_lt (by (with_reducible repeat (first | apply Kd.R_alloc | apply Kd.R_drewN | apply Kd.R_drew)); exact HO497.out))) (Kd.S_lt (by (with_reducible repeat (first | apply Kd.S_alloc | apply Kd.S_drewN | apply Kd.S_drew)); exact HO500.out))) (below_size (by repeat (first | (with_reducible first | exact HB.out | apply below_alloc | apply pw_below_drewN | apply below_drew1) | exact HB.out)))); have n6_ := Aside0.mk (below_step (by repeat (first | (with_reducible first | exact HB.out | apply below_alloc | apply pw_below_drewN | apply below_drew1) | exact HB.out)) hb); clear HO_3; clear HO_4; clear HO_5; clear HO497; clear HO500; clear HB; have HO_3 := n0_; have HO_4 := n1_; have HO_5 := n2_; have HO497 := n3_; have HO500 := n4_; have HO503 := n5_; have HB := n6_; clear n0_ n1_ n2_ n3_ n4_ n5_ n6_; (try clear hb); (try clear hb2); (try clear hk); (try clear hi); (try clear ho0); obtain ⟨Ao99, co99, eo99⟩ := Kd.R_slice HO497.out; subst eo99) | (go_at_call 26; (with_reducible refine (laws_smTexts.calls kj4 _ _ t494 _ _ t476 false _ ?side1 ?side2 ?side3 ?side4 A39.out).mono ?_); (case side1 => repeat (first | exact (Kd.R_reads' HO497.out).2.2 | (with_reducible refine Kd.C_alloc ?_ _) | (with_reducible refine Kd.C_drewN ?_ _) | (with_reducible refine Kd.C_drew ?_))); (case side2 => exact (Kd.R_reads' HO497.out).2.1); (case side3 => repeat (first | exact (Kd.R_reads' HO_4.out).2.2 | (with_reducible refine Kd.C_alloc ?_ _) | (with_reducible refine Kd.C_drewN ?_ _) | (with_reducible refine Kd.C_drew ?_))); (case side4 => exact (Kd.R_reads' HO_4.out).2.1); rintro e w' ⟨rfl, ⟨nd, rfl⟩⟩))
           go_ret
           exact ⟨by first | rfl | (simp [errW_none, errW_some] <;> rfl) | (simp [*, errW_none, errW_some] <;> rfl), by repeat (first | (with_reducible first | exact HB.out | apply below_alloc | apply pw_below_drewN | apply below_drew1) | exact HB.out)⟩
       · replace c38 := Bool.eq_false_iff.mpr c38
         subst c38
         have H1 : (some false) = some r := by rw [if_neg (show ¬ (false = true) by decide)] at H; exact H
         clear H
         have H := H1
         clear H1
         obtain rfl := Option.some.inj H
         obtain ⟨Ao100, co100, eo100⟩ := Kd.S_slice HO_5.out
         subst eo100
         go_wp2_with (first | ((with_reducible refine gate_callee (f := 25) rfl ?_); refine goesL_ (some 45) rfl rfl Try.func25 (by kernel_rfl) rfl #[.slice Ao7 t475.length co7, .slice Ao100 t481.length co100] rfl (by (try simp only [List.map_toArray, List.map_cons, List.map_nil]); first | done | rfl | (simp only [List.length_drop, List.length_take]; rfl)) ?_; (with_reducible refine (impl_DeltaDo.calls kj4 _ _ t475 _ _ t481 t494 false _ ?side1 ?side2 ?side3 ?side4 A35.out).mono ?_); (case side1 => repeat (first | exact (Kd.R_reads' HO_3.out).2.2 | (with_reducible refine Kd.C_alloc ?_ _) | (with_reducible refine Kd.C_drewN ?_ _) | (with_reducible refine Kd.C_drew ?_))); (case side2 => exact (Kd.R_reads' HO_3.out).2.1); (case side3 => repeat (first | exact (Kd.S_reads' HO_5.out).2.2 | (with_reducible refine Kd.C_alloc ?_ _) | (with_reducible refine Kd.C_drewN ?_ _) | (with_reducible refine Kd.C_drew ?_))); (case side4 => exact (Kd.S_reads' HO_5.out).2.1); rintro e w101 ⟨v496, rfl, ho0, hb⟩; refine ⟨_, rfl, ?_⟩; have n0_ := Aside0.mk (Kd.R_elder' (by (with_reducible repeat (first | apply Kd.R_alloc | apply Kd.R_drewN | apply Kd.R_drew)); exact HO_3.out) (Kd.R_base ho0) hb); have n1_ := Aside0.mk (Kd.R_elder' (by (with_reducible repeat (first | apply Kd.R_alloc | apply Kd.R_drewN | apply Kd.R_drew)); exact HO_4.out) (Kd.R_base ho0) hb); have n2_ := Aside0.mk (Kd.S_elder' (by (with_reducible repeat (first | apply Kd.S_alloc | apply Kd.S_drewN | apply Kd.S_drew)); exact HO_5.out) (Kd.R_base ho0) hb); have n3_ := Aside0.mk (Kd.R_lower (Kd.R_new' (Kd.R_new' ho0 (Kd.R_lt (by (with_reducible repeat (first | apply Kd.R_alloc | apply Kd.R_drewN | apply Kd.R_drew)); exact HO_3.out))) (Kd.R_lt (by (with_reducible repeat (first | apply Kd.R_alloc | apply Kd.R_drewN | apply Kd.R_drew)); exact HO_4.out))) (below_size (by repeat (first | (with_reducible first | exact HB.out | apply below_alloc | apply pw_below_drewN | apply below_drew1) | exact HB.out)))); have n4_ := Aside0.mk (below_step (by repeat (first | (with_reducible first | exact HB.out | apply below_alloc | apply pw_below_drewN | apply below_drew1) | exact HB.out)) hb); clear HO_3; clear HO_4; clear HO_5; clear HB; have HO_3 := n0_; have HO_4 := n1_; have HO_5 := n2_; have HO497 := n3_; have HB := n4_; clear n0_ n1_ n2_ n3_ n4_; (try clear hb); (try clear hb2); (try clear hk); (try clear hi); (try clear ho0)) | ((with_reducible refine gate_callee (f := 21) rfl ?_); refine goesL_ (some 50) rfl rfl Try.func21 (by kernel_rfl) rfl #[.slice Ao8 t476.length co8, .slice Ao8 t476.length co8] rfl (by (try simp only [List.map_toArray, List.map_cons, List.map_nil]); first | done | rfl | (simp only [List.length_drop, List.length_take]; rfl)) ?_; (with_reducible refine (impl_DeltaOf.calls kj4 _ _ t476 _ _ t476 t498 _ ?side1 ?side2 ?side3 ?side4 A36.out).mono ?_); (case side1 => repeat (first | exact (Kd.R_reads' HO_4.out).2.2 | (with_reducible refine Kd.C_alloc ?_ _) | (with_reducible refine Kd.C_drewN ?_ _) | (with_reducible refine Kd.C_drew ?_))); (case side2 => exact (Kd.R_reads' HO_4.out).2.1); (case side3 => repeat (first | exact (Kd.R_reads' HO_4.out).2.2 | (with_reducible refine Kd.C_alloc ?_ _) | (with_reducible refine Kd.C_drewN ?_ _) | (with_reducible refine Kd.C_drew ?_))); (case side4 => exact (Kd.R_reads' HO_4.out).2.1); rintro e w102 ⟨v499, rfl, ho0, hb⟩; refine ⟨_, rfl, ?_⟩; have n0_ := Aside0.mk (Kd.R_below (by (with_reducible repeat (first | apply Kd.R_alloc | apply Kd.R_drewN | apply Kd.R_drew)); exact HO_3.out) hb); have n1_ := Aside0.mk (Kd.R_below (by (with_reducible repeat (first | apply Kd.R_alloc | apply Kd.R_drewN | apply Kd.R_drew)); exact HO_4.out) hb); have n2_ := Aside0.mk (Kd.S_elder' (by (with_reducible repeat (first | apply Kd.S_alloc | apply Kd.S_drewN | apply Kd.S_drew)); exact HO_5.out) (Kd.S_base ho0) hb); have n3_ := Aside0.mk (Kd.R_below (by (with_reducible repeat (first | apply Kd.R_alloc | apply Kd.R_drewN | apply Kd.R_drew)); exact HO497.out) hb); have n4_ := Aside0.mk (Kd.S_lower (Kd.S_new' (Kd.S_new' (Kd.S_new' (Kd.S_new' ho0 (Kd.R_lt (by (with_reducible repeat (first | apply Kd.R_alloc | apply Kd.R_drewN | apply Kd.R_drew)); exact HO_3.out))) (Kd.R_lt (by (with_reducible repeat (first | apply Kd.R_alloc | apply Kd.R_drewN | apply Kd.R_drew)); exact HO_4.out))) (Kd.S_lt (by (with_reducible repeat (first | apply Kd.S_alloc | apply Kd.S_drewN | apply Kd.S_drew)); exact HO_5.out))) (Kd.R_lt (by (with_reducible repeat (first | apply Kd.R_alloc | apply Kd.R_drewN | apply Kd.R_drew)); exact HO497.out))) (below_size (by repeat (first | (with_reducible first | exact HB.out | apply below_alloc | apply pw_below_drewN | apply below_drew1) | exact HB.out)))); have n5_ := Aside0.mk (below_step (by repeat (first | (with_reducible first | exact HB.out | apply below_alloc | apply pw_below_drewN | apply below_drew1) | exact HB.out)) hb); clear HO_3; clear HO_4; clear HO_5; clear HO497; clear HB; have HO_3 := n0_; have HO_4 := n1_; have HO_5 := n2_; have HO497 := n3_; have HO500 := n4_; have HB := n5_; clear n0_ n1_ n2_ n3_ n4_ n5_; (try clear hb); (try clear hb2); (try clear hk); (try clear hi); (try clear ho0)) | ((with_reducible refine gate_callee (f := 21) rfl ?_); refine goesL_ (some 52) rfl rfl Try.func21 (by kernel_rfl) rfl #[.slice none 0 0, .slice Ao8 t476.length co8] rfl (by (try simp only [List.map_toArray, List.map_cons, List.map_nil]); first | done | rfl | (simp only [List.length_drop, List.length_take]; rfl)) ?_; (refine (impl_DeltaOf.calls kj4 _ _ ([] : List ByteArray) _ _ t476 t501 _ ?side1 ?side2 ?side3 ?side4 A37.out).mono ?_); (case side1 => exact Kd.C_nil _ _); (case side2 => exact Nat.le_refl _); (case side3 => repeat (first | exact (Kd.R_reads' HO_4.out).2.2 | (with_reducible refine Kd.C_alloc ?_ _) | (with_reducible refine Kd.C_drewN ?_ _) | (with_reducible refine Kd.C_drew ?_))); (case side4 => exact (Kd.R_reads' HO_4.out).2.1); rintro e w103 ⟨v502, rfl, ho0, hb⟩; refine ⟨_, rfl, ?_⟩; have n0_ := Aside0.mk (Kd.R_below (by (with_reducible repeat (first | apply Kd.R_alloc | apply Kd.R_drewN | apply Kd.R_drew)); exact HO_3.out) hb); have n1_ := Aside0.mk (Kd.R_below (by (with_reducible repeat (first | apply Kd.R_alloc | apply Kd.R_drewN | apply Kd.R_drew)); exact HO_4.out) hb); have n2_ := Aside0.mk (Kd.S_elder' (by (with_reducible repeat (first | apply Kd.S_alloc | apply Kd.S_drewN | apply Kd.S_drew)); exact HO_5.out) (Kd.S_base ho0) hb); have n3_ := Aside0.mk (Kd.R_below (by (with_reducible repeat (first | apply Kd.R_alloc | apply Kd.R_drewN | apply Kd.R_drew)); exact HO497.out) hb); have n4_ := Aside0.mk (Kd.S_elder' (by (with_reducible repeat (first | apply Kd.S_alloc | apply Kd.S_drewN | apply Kd.S_drew)); exact HO500.out) (Kd.S_base ho0) hb); have n5_ := Aside0.mk (Kd.S_lower (Kd.S_new' (Kd.S_new' (Kd.S_new' (Kd.S_new' (Kd.S_new' ho0 (Kd.R_lt (by (with_reducible repeat (first | apply Kd.R_alloc | apply Kd.R_drewN | apply Kd.R_drew)); exact HO_3.out))) (Kd.R_lt (by (with_reducible repeat (first | apply Kd.R_alloc | apply Kd.R_drewN | apply Kd.R_drew)); exact HO_4.out))) (Kd.S_lt (by (with_reducible repeat (first | apply Kd.S_alloc | apply Kd.S_drewN | apply Kd.S_drew)); exact HO_5.out))) (Kd.R_lt (by (with_reducible repeat (first | apply Kd.R_alloc | apply Kd.R_drewN | apply Kd.R_drew)); exact HO497.out))) (Kd.S_lt (by (with_reducible repeat (first | apply Kd.S_alloc | apply Kd.S_drewN | apply Kd.S_drew)); exact HO500.out))) (below_size (by repeat (first | (with_reducible first | exact HB.out | apply below_alloc | apply pw_below_drewN | apply below_drew1) | exact HB.out)))); have n6_ := Aside0.mk (below_step (by repeat (first | (with_reducible first | exact HB.out | apply below_alloc | apply pw_below_drewN | apply below_drew1) | exact HB.out)) hb); clear HO_3; clear HO_4; clear HO_5; clear HO497; clear HO500; clear HB; have HO_3 := n0_; have HO_4 := n1_; have HO_5 := n2_; have HO497 := n3_; have HO500 := n4_; have HO503 := n5_; have HB := n6_; clear n0_ n1_ n2_ n3_ n4_ n5_ n6_; (try clear hb); (try clear hb2); (try clear hk); (try clear hi); (try clear ho0)))
         go_ret
         exact ⟨by first | rfl | (simp [errW_none, errW_some] <;> rfl) | (simp [*, errW_none, errW_some] <;> rfl), by repeat (first | (with_reducible first | exact HB.out | apply below_alloc | apply pw_below_drewN | apply below_drew1) | exact HB.out)⟩
/-- THE ONE PURE STATEMENT of laws_FnDeltaOf: yours. -/
def laws_FnDeltaOf.Pure : Prop := ∀ (l0 : List Int), l0.length ≤ maxLen → l0.length * 1 ≤ 140737488351232 → (∀ x ∈ l0, (Lit.int .u8 x).wf = true) → ∃ k, laws_FnDeltaOf.f k l0 = some true
theorem laws_FnDeltaOf.walk (P : laws_FnDeltaOf.Pure) (a0 : Option Addr) (len0 cap0 : Nat) (z0 : List Int) (w : World) (w0 : (a0 = none ∧ len0 = 0 ∧ cap0 = 0 ∧ z0 = []) ∨ ∃ x, a0 = some x ∧ len0 ≤ cap0 ∧ cap0 ≤ maxLen ∧ z0.length = cap0 ∧ (∀ i, i < z0.length → w.cell? (x.add i) = some (.int .u8 (z0.getD i 0))) ∧ ∀ n ∈ z0, (Lit.int .u8 n).wf = true) (y0 : len0 * 1 ≤ 140737488351232) :
 Calls Try.prog 4 #[.slice a0 len0 cap0] w fun e w' => e = .returned (.bool true) ∧ Below w.heap.size w w' := by
 obtain ⟨l0, rfl, hr0, hm0, hw0, hc0⟩ := ReadsInt.ofRowC w0
 obtain ⟨k, h⟩ := P l0 hm0 y0 hw0
 refine (laws_FnDeltaOf.calls k _ _ l0 true w (Kd.C_of_reads (d := (0 : Int)) (h1 := fun _ => rfl) hr0) hc0 h).mono ?_
 rintro e w' ⟨rfl, hd⟩
 exact ⟨rfl, hd⟩
end Go.Proofs.Ytfnhjaiioojbkaa.Q
end
section
namespace Go.Proofs.Ytfnhjaiioojbkaa.Q
open Go.RowKit Go.Proofs.YtfnhjaiioojbkaaW.PrintWords
set_option linter.unusedVariables false
theorem w64 {x : Int} (h0 : -9223372036854775808 ≤ x) (h1 : x ≤ 9223372036854775807) : wrap64 x = x := by unfold wrap64; omega
theorem w64_add (i n : Nat) (h : i + n ≤ 1000000000000) : wrap64 ((i : Int) + (n : Int)) = ((i + n : Nat) : Int) := by rw [w64 (by omega) (by omega)]; omega
theorem w64_succ (n : Nat) (h : n ≤ 1000000000000) : wrap64 ((n : Int) + 1) = ((n + 1 : Nat) : Int) := by rw [w64 (by omega) (by omega)]; omega
theorem EvT {α : Type} {g : Nat → Option α} {r r' : α} (h : Ev g r) (e : r = r') : Ev g r' := e ▸ h
theorem Ev.uniq {α : Type} {g : Nat → Option α} {r r' : α} (h : Ev g r) (h' : Ev g r') : r = r' := by
  obtain ⟨K, h⟩ := h
  obtain ⟨K', h'⟩ := h'
  have a := h (max K K') (by omega)
  have b := h' (max K K') (by omega)
  rw [a] at b
  exact Option.some.inj b
theorem Ev.posf {α : Type} {c : Prop} [Decidable c] {g f : Nat → Option α} {r : α} (hc : c) (h : Ev g r) : Ev (fun k => if c then g k else f k) r := by
  obtain ⟨K, h⟩ := h
  exact ⟨K, fun k hk => by show (if c then g k else f k) = _; rw [if_pos hc]; exact h k hk⟩
theorem Ev.negf {α : Type} {c : Prop} [Decidable c] {g f : Nat → Option α} {r : α} (hc : ¬ c) (h : Ev f r) : Ev (fun k => if c then g k else f k) r := by
  obtain ⟨K, h⟩ := h
  exact ⟨K, fun k hk => by show (if c then g k else f k) = _; rw [if_neg hc]; exact h k hk⟩
theorem Ev.ite {α : Type} {c : Prop} [Decidable c] {g f : Nat → Option α} {r : α} (h1 : c → Ev g r) (h2 : ¬ c → Ev f r) : Ev (fun k => if c then g k else f k) r :=
  if hc : c then Ev.posf hc (h1 hc) else Ev.negf hc (h2 hc)
theorem Ev.mapf {α β : Type} {g : Nat → Option α} {a : α} (f : α → β) (h : Ev g a) : Ev (fun k => (g k).map f) (f a) := by
  obtain ⟨K, h⟩ := h
  exact ⟨K, fun k hk => by show (g k).map f = _; rw [h k hk]; rfl⟩
theorem Ev.somef {α β : Type} {a : α} {f : Nat → α → Option β} {r : β} (h : Ev (fun k => f k a) r) : Ev (fun k => (some a).bind (f k)) r := h
/-- One round of a loop: simp only [F.l0] lays it open. -/
theorem Ev.step' {α : Type} {g : Nat → Option α} {r : α} (h : Ev (fun k => g (k + 1)) r) : Ev g r := Ev.step (fun _ => rfl) h
theorem bstr {a b : ByteArray} : a.toList = b.toList ↔ a = b := by
  constructor
  · intro h
    rw [ByteArray.toList_eq, ByteArray.toList_eq] at h
    cases a; cases b
    simp at h
    subst h
    rfl
  · rintro rfl; rfl
theorem rdAt {α : Type} {d : α} {xs : List α} {i : Nat} (h : i < xs.length) : rdOf d xs (i : Int) = xs[i] := by
  simp [rdOf, List.getD_eq_getElem?_getD, h]
theorem rdI {xs : List Int} {i : Nat} (h : i < xs.length) : rd xs (i : Int) = xs[i] := by
  simp [rd, List.getD_eq_getElem?_getD, h]
theorem toNat_of {i : Int} (h : 0 ≤ i) : ∃ n : Nat, i = n := ⟨i.toNat, by omega⟩
theorem xor_nn {x y : Int} (hx : 0 ≤ x) (hy : 0 ≤ y) (hx1 : x < 4611686018427387904) (hy1 : y < 4611686018427387904) : 0 ≤ Go.bits .xor .i64 x y ∧ Go.bits .xor .i64 x y < 4611686018427387904 := by
  obtain ⟨a, rfl⟩ := toNat_of hx
  obtain ⟨b, rfl⟩ := toNat_of hy
  have ha : a < 2 ^ 62 := by omega
  have hb : b < 2 ^ 62 := by omega
  have hab := Nat.xor_lt_two_pow ha hb
  have e : Go.bits .xor .i64 (a : Int) (b : Int) = ((a ^^^ b : Nat) : Int) := by
    have ha' : a % 2 ^ 64 = a := Nat.mod_eq_of_lt (by omega)
    have hb' : b % 2 ^ 64 = b := Nat.mod_eq_of_lt (by omega)
    simp only [Go.bits, IntKind.bits, BitVec.ofInt_natCast]
    have e2 : (BitVec.ofNat 64 a ^^^ BitVec.ofNat 64 b).toNat = a ^^^ b := by rw [BitVec.toNat_xor, BitVec.toNat_ofNat, BitVec.toNat_ofNat, ha', hb']
    rw [IntKind.wrap_i64]
    have e3 : (BitVec.ofNat IntKind.i64.bits a ^^^ BitVec.ofNat IntKind.i64.bits b).toNat = a ^^^ b := e2
    have e4 : ∀ q : Nat, q = a ^^^ b → ((q : Int) + 9223372036854775808) % 18446744073709551616 - 9223372036854775808 = ((a ^^^ b : Nat) : Int) := by intro q hq; rw [hq]; omega
    exact e4 _ e3
  rw [e]
  omega
/-- Lines that are not long. -/
def Sz (l : List ByteArray) : Prop := ∀ s ∈ l, s.size ≤ 100
theorem Sz.nil : Sz [] := fun s h => by cases h
theorem Sz.app {a b : List ByteArray} (h : Sz a) (k : Sz b) : Sz (a ++ b) := fun s hs => by
  rcases List.mem_append.mp hs with hs | hs
  · exact h s hs
  · exact k s hs
theorem Sz.one {s : ByteArray} (h : s.size ≤ 100) : Sz [s] := fun x hx => by
  rw [List.mem_singleton.mp hx]
  exact h
theorem Sz.sub {a b : List ByteArray} (h : Sz a) (k : ∀ s ∈ b, s ∈ a) : Sz b := fun s hs => h s (k s hs)
theorem Sz.take {a : List ByteArray} (h : Sz a) (n : Nat) : Sz (a.take n) := h.sub fun _ hs => List.mem_of_mem_take hs
theorem Sz.drop {a : List ByteArray} (h : Sz a) (n : Nat) : Sz (a.drop n) := h.sub fun _ hs => List.mem_of_mem_drop hs
theorem Sz.set {a : List ByteArray} (h : Sz a) (n : Nat) {s : ByteArray} (k : s.size ≤ 100) : Sz (a.set n s) := fun x hx => by
  rcases List.mem_or_eq_of_mem_set hx with hx | rfl
  · exact h x hx
  · exact k
end Go.Proofs.Ytfnhjaiioojbkaa.Q
end
section
namespace Go.Proofs.Ytfnhjaiioojbkaa.Q
open Go.RowKit Go.Proofs.YtfnhjaiioojbkaaW.PrintWords
set_option linter.unusedVariables false
set_option linter.unusedSimpArgs false
/-- A code: not long, of bytes. -/
def Code (b : List Int) : Prop := b.length ≤ 2000 ∧ ∀ x ∈ b, 0 ≤ x ∧ x ≤ 255
theorem Code.rd {b : List Int} (h : Code b) (i : Int) : 0 ≤ rd b i ∧ rd b i ≤ 255 := by
  show 0 ≤ b.getD i.toNat 0 ∧ b.getD i.toNat 0 ≤ 255
  rw [List.getD_eq_getElem?_getD]
  by_cases hi : i.toNat < b.length
  · simp [hi]
    exact h.2 _ (List.getElem_mem hi)
  · simp [hi]
/-- A place in a code that is far from the end of the numbers. -/
def Pl (p : Int) : Prop := 0 ≤ p ∧ p ≤ 1000000000
theorem tmod_in {x n : Int} (hx : 0 ≤ x) (hn : 1 ≤ n) : 0 ≤ Int.tmod x n ∧ Int.tmod x n < n := by
  rw [Int.tmod_eq_emod_of_nonneg hx]
  exact ⟨Int.emod_nonneg _ (by omega), Int.emod_lt_of_pos _ (by omega)⟩
theorem pick_ev {b : List Int} (hb : Code b) {p : Int} (hp : Pl p) {n : Int} (hn : n ≤ 1000000) :
    ∃ v, Ev (fun k => spec_l30Rd_pick.f k b p n) (v, p + 1) ∧ 0 ≤ v ∧ (1 ≤ n → v < n) := by
  have e1 : wrap64 (p + 1) = p + 1 := w64 (by have := hp.1; omega) (by have := hp.2; omega)
  have e2 : wrap64 (p + 1 - 1) = p := by rw [show p + 1 - 1 = p by omega]; exact w64 (by have := hp.1; omega) (by have := hp.2; omega)
  by_cases h1 : n < 1
  · refine ⟨0, ⟨1, fun k hk => ?_⟩, by omega, by omega⟩
    obtain ⟨m, rfl⟩ : ∃ m, k = m + 1 := ⟨k - 1, by omega⟩
    simp only [spec_l30Rd_pick.f]
    rw [if_pos h1]
    simp only [spec_l30Rd_pick.j0]
    rw [if_pos trivial, e1]
  · by_cases h2 : (b.length : Int) = 0
    · refine ⟨0, ⟨1, fun k hk => ?_⟩, by omega, by omega⟩
      obtain ⟨m, rfl⟩ : ∃ m, k = m + 1 := ⟨k - 1, by omega⟩
      simp only [spec_l30Rd_pick.f]
      rw [if_neg h1]
      simp only [spec_l30Rd_pick.j0]
      rw [if_pos (by simpa using h2), e1]
    · have hL1 : 1 ≤ (b.length : Int) := by omega
      have hL2 : (b.length : Int) ≤ 2000 := by have := hb.1; omega
      have e3 : wrap64 (p * 7) = p * 7 := w64 (by have := hp.1; omega) (by have := hp.2; omega)
      have e4 : wrap64 (p * 7 + 3) = p * 7 + 3 := w64 (by have := hp.1; omega) (by have := hp.2; omega)
      have m1 := tmod_in hp.1 hL1
      have m2 := tmod_in (x := p * 7 + 3) (by have := hp.1; omega) hL1
      by_cases h3 : p < (b.length : Int)
      · have hA := hb.rd p
        have e5 : wrap64 (rd b p) = rd b p := w64 (by omega) (by omega)
        have m3 := tmod_in hA.1 (n := n) (by omega)
        refine ⟨Int.tmod (rd b p) n, ⟨1, fun k hk => ?_⟩, m3.1, fun _ => m3.2⟩
        obtain ⟨m, rfl⟩ : ∃ m, k = m + 1 := ⟨k - 1, by omega⟩
        simp only [spec_l30Rd_pick.f]
        rw [if_neg h1]
        simp only [spec_l30Rd_pick.j0]
        rw [if_neg (by simpa using h2), e1, e2, if_pos h3, if_pos hp.1, if_neg (by omega), e5]
      · have hA := hb.rd (Int.tmod p b.length)
        have hB := hb.rd (Int.tmod (p * 7 + 3) b.length)
        have f1 : wrap64 (rd b (Int.tmod p b.length)) = rd b (Int.tmod p b.length) := w64 (by omega) (by omega)
        have f2 : wrap64 (rd b (Int.tmod (p * 7 + 3) b.length)) = rd b (Int.tmod (p * 7 + 3) b.length) := w64 (by omega) (by omega)
        have hD : 0 ≤ Int.tdiv p b.length ∧ Int.tdiv p b.length ≤ 1000000000 := by
          rw [Int.tdiv_eq_ediv_of_nonneg hp.1]
          exact ⟨Int.ediv_nonneg hp.1 (by omega), Int.le_trans (Int.ediv_le_self _ hp.1) hp.2⟩
        have g1 : wrap64 (rd b (Int.tmod p b.length) * 131) = rd b (Int.tmod p b.length) * 131 := w64 (by omega) (by omega)
        have g2 : wrap64 (rd b (Int.tmod (p * 7 + 3) b.length) * 1117) = rd b (Int.tmod (p * 7 + 3) b.length) * 1117 := w64 (by omega) (by omega)
        have g3 : wrap64 (p * 29) = p * 29 := w64 (by have := hp.1; omega) (by have := hp.2; omega)
        have g4 : wrap64 (Int.tdiv p b.length) = Int.tdiv p b.length := w64 (by omega) (by omega)
        have g5 : wrap64 (Int.tdiv p b.length * 53) = Int.tdiv p b.length * 53 := w64 (by omega) (by omega)
        have g6 : wrap64 (rd b (Int.tmod p b.length) * 131 + rd b (Int.tmod (p * 7 + 3) b.length) * 1117) = rd b (Int.tmod p b.length) * 131 + rd b (Int.tmod (p * 7 + 3) b.length) * 1117 := w64 (by omega) (by omega)
        have g7 : wrap64 (rd b (Int.tmod p b.length) * 131 + rd b (Int.tmod (p * 7 + 3) b.length) * 1117 + p * 29) = rd b (Int.tmod p b.length) * 131 + rd b (Int.tmod (p * 7 + 3) b.length) * 1117 + p * 29 := w64 (by have := hp.1; omega) (by have := hp.2; omega)
        obtain ⟨X, hX⟩ : ∃ X, X = rd b (Int.tmod p b.length) * 131 + rd b (Int.tmod (p * 7 + 3) b.length) * 1117 + p * 29 + Int.tdiv p b.length * 53 := ⟨_, rfl⟩
        have hX0 : 0 ≤ X ∧ X ≤ 1000000000000 := by have := hp.1; have := hp.2; omega
        have hY : 0 ≤ Int.tdiv X 64 ∧ Int.tdiv X 64 ≤ 1000000000000 := by
          rw [Int.tdiv_eq_ediv_of_nonneg hX0.1]
          omega
        have g8 : wrap64 X = X := w64 (by omega) (by omega)
        have g9 : wrap64 (Int.tdiv X 64) = Int.tdiv X 64 := w64 (by omega) (by omega)
        have hx := xor_nn hX0.1 hY.1 (by omega) (by omega)
        have m3 := tmod_in hx.1 (n := n) (by omega)
        refine ⟨Int.tmod (Go.bits .xor .i64 X (Int.tdiv X 64)) n, ⟨1, fun k hk => ?_⟩, m3.1, fun _ => m3.2⟩
        obtain ⟨m, rfl⟩ : ∃ m, k = m + 1 := ⟨k - 1, by omega⟩
        simp only [spec_l30Rd_pick.f]
        rw [if_neg h1]
        simp only [spec_l30Rd_pick.j0]
        rw [if_neg (by simpa using h2)]
        simp only [e1, e2, e3, e4, f1, f2, g1, g2, g3, g4, g5, g6, g7, g8, ← hX, g9]
        rw [if_neg h3, if_neg h2, if_pos m1.1, if_pos m1.2, if_pos m2.1, if_pos m2.2, if_neg (by omega)]
theorem of_ev {b : List Int} (hb : Code b) {p : Int} (hp : Pl p) {l : List ByteArray} (h0 : 0 < l.length) (hn : l.length ≤ 1000000) :
    ∃ s, Ev (fun k => spec_l30Rd_of.f k b p l) (s, p + 1) ∧ s ∈ l := by
  obtain ⟨v, hv, h1, h2⟩ := pick_ev hb hp (n := l.length) (by omega)
  obtain ⟨i, rfl⟩ := toNat_of h1
  have hi : i < l.length := by omega
  refine ⟨l[i], ?_, List.getElem_mem hi⟩
  unfold spec_l30Rd_of.f
  refine Ev.bind hv ?_
  refine Ev.posf h1 (Ev.posf (by show ((i : Int)) < _; omega) ?_)
  rw [rdAt hi]
  exact Ev.now _
theorem one_ev {b : List Int} (hb : Code b) {p : Int} (hp : Pl p) {l : List Int} (h0 : 0 < l.length) (hn : l.length ≤ 1000000) :
    ∃ s, Ev (fun k => spec_l30Rd_one.f k b p l) (s, p + 1) ∧ s ∈ l := by
  obtain ⟨v, hv, h1, h2⟩ := pick_ev hb hp (n := l.length) (by omega)
  obtain ⟨i, rfl⟩ := toNat_of h1
  have hi : i < l.length := by omega
  refine ⟨l[i], ?_, List.getElem_mem hi⟩
  unfold spec_l30Rd_one.f
  refine Ev.bind hv ?_
  refine Ev.posf h1 (Ev.posf (by show ((i : Int)) < _; omega) ?_)
  rw [rdI hi]
  exact Ev.now _
theorem line_ev {b : List Int} (hb : Code b) {p : Int} (hp : Pl p) : ∃ s, Ev (fun k => spec_l30Line.f k b p) (s, p + 1) ∧ s.size ≤ 100 := by
  unfold spec_l30Line.f
  obtain ⟨s, hs, hm⟩ := of_ev hb hp (l := [⟨#[97]⟩, ⟨#[98]⟩, ⟨#[99]⟩, ⟨#[100]⟩, ⟨#[]⟩, ⟨#[120, 32, 121]⟩, ⟨#[115, 101, 101, 32, 97]⟩, ⟨#[115, 101, 101, 32, 100, 47, 101]⟩, ⟨#[101, 110, 100]⟩]) (by simp) (by simp)
  refine ⟨s, Ev.bind hs (Ev.now _), ?_⟩
  simp only [List.mem_cons, List.not_mem_nil, or_false] at hm
  rcases hm with rfl | rfl | rfl | rfl | rfl | rfl | rfl | rfl | rfl <;> decide
theorem Pl.add {p : Int} (h : 0 ≤ p ∧ p ≤ 1000000) {c : Int} (h0 : 0 ≤ c) (h1 : c ≤ 1000000) : Pl (p + c) := ⟨by omega, by omega⟩
theorem text0_ev {b : List Int} (hb : Code b) : ∀ (d : Nat) (out : List ByteArray) (p : Int), 0 ≤ p → p + d ≤ 1000000000 → out.length + d ≤ 1000000 → Sz out →
    ∃ r, Ev (fun k => spec_l30Text.l0 k out d b p) (r, p + d) ∧ r.length = out.length + d ∧ Sz r
  | 0, out, p, h0, h1, h2, hz => by
    refine ⟨out, ⟨1, fun k hk => ?_⟩, rfl, hz⟩
    obtain ⟨m, rfl⟩ : ∃ m, k = m + 1 := ⟨k - 1, by omega⟩
    simp [spec_l30Text.l0]
  | d + 1, out, p, h0, h1, h2, hz => by
    obtain ⟨s, hs, hs1⟩ := line_ev hb (p := p) ⟨h0, by omega⟩
    obtain ⟨r, hr, hl, hz2⟩ := text0_ev hb d (out ++ [s]) (p + 1) (by omega) (by omega) (by simp; omega) (hz.app (Sz.one hs1))
    refine ⟨r, ?_, by rw [hl]; simp; omega, hz2⟩
    refine Ev.step (f := fun k => if (((d + 1 : Nat) : Int)) > 0 then ((spec_l30Line.f k b p).bind fun bt237 => (if out.length < 8796093022208 then (spec_l30Text.l0 k (out ++ [bt237.1]) (wrap64 ((((d + 1 : Nat) : Int)) - 1)) b bt237.2) else (none))) else (some (out, p))) (fun k => rfl) ?_
    refine Ev.posf (by omega) (Ev.bind hs (Ev.posf (by omega) ?_))
    rw [show wrap64 (((d + 1 : Nat) : Int) - 1) = (d : Int) by rw [w64 (by omega) (by omega)]; omega]
    exact EvT hr (by rw [show p + 1 + (d : Int) = p + ((d + 1 : Nat) : Int) by omega])
theorem text_ev {b : List Int} (hb : Code b) {p : Int} (h0 : 0 ≤ p) (h1 : p ≤ 1000000) : ∃ r q, Ev (fun k => spec_l30Text.f k b p) (r, q) ∧ r.length ≤ 8 ∧ Sz r ∧ p ≤ q ∧ q ≤ p + 9 := by
  obtain ⟨v, hv, hm⟩ := one_ev hb (p := p) ⟨h0, by omega⟩ (l := [0, 1, 3, 5, 8]) (by simp) (by simp)
  have hv8 : 0 ≤ v ∧ v ≤ 8 := by simp at hm; omega
  obtain ⟨d, rfl⟩ := toNat_of hv8.1
  obtain ⟨r, hr, hl, hz⟩ := text0_ev hb d [] (p + 1) (by omega) (by omega) (by simp; omega) Sz.nil
  refine ⟨r, p + 1 + d, ?_, by rw [hl]; simp; omega, hz, ?_, ?_⟩
  · unfold spec_l30Text.f
    exact Ev.bind hv hr
  · omega
  · omega
theorem anyText_ev {b : List Int} (hb : Code b) {p : Int} (h0 : 0 ≤ p) (h1 : p ≤ 1000000) : ∃ r q, Ev (fun k => spec_l30AnyText.f k b p) (r, q) ∧ r.length ≤ 18 ∧ Sz r ∧ p ≤ q ∧ q ≤ p + 11 := by
  obtain ⟨t, q, ht, hl, hz, hq1, hq2⟩ := text_ev hb h0 h1
  obtain ⟨v, hv, hv0, hv1⟩ := pick_ev hb (p := q) ⟨by omega, by omega⟩ (n := 16) (by omega)
  unfold spec_l30AnyText.f
  by_cases c0 : v = 0
  · obtain ⟨s, hs, hm⟩ := of_ev hb (p := q + 1) ⟨by omega, by omega⟩ (l := [⟨#[97, 32, 108, 105, 110, 101, 32, 116, 111, 111, 32, 108, 111, 110, 103]⟩, ⟨#[120, 10, 121]⟩, ⟨#[255]⟩]) (by simp) (by simp)
    have hs1 : s.size ≤ 100 := by
      simp only [List.mem_cons, List.not_mem_nil, or_false] at hm
      rcases hm with rfl | rfl | rfl <;> decide
    exact ⟨t ++ [s], q + 1 + 1, Ev.bind ht (Ev.bind hv (Ev.posf c0 (Ev.bind hs (Ev.posf (by show t.length < _; omega) (Ev.now _))))), by simp; omega, hz.app (Sz.one hs1), by omega, by omega⟩
  · by_cases c1 : v = 1
    · exact ⟨_, q + 1, Ev.bind ht (Ev.bind hv (Ev.negf c0 (Ev.posf c1 (Ev.somef (Ev.posf (by simp; omega) (Ev.now _)))))), by simp; omega, hz.app (fun s hs => by simp only [List.mem_cons, List.not_mem_nil, or_false] at hs; rcases hs with rfl | rfl | rfl | rfl | rfl | rfl | rfl | rfl | rfl | rfl <;> decide), by omega, by omega⟩
    · exact ⟨t, q + 1, Ev.bind ht (Ev.bind hv (Ev.negf c0 (Ev.negf c1 (Ev.now _)))), by omega, hz, by omega, by omega⟩
theorem turn0_ev {b : List Int} (hb : Code b) : ∀ (d : Nat) (out : List ByteArray) (p : Int), 0 ≤ p → p + 3 * d ≤ 1000000000 → out.length ≤ 1000 → Sz out →
    ∃ r q, Ev (fun k => spec_l30Turn.l0 k out d b p) (r, q) ∧ r.length ≤ max out.length 10 ∧ Sz r ∧ p ≤ q ∧ q ≤ p + 3 * d
  | 0, out, p, h0, h1, h2, hz => by
    refine ⟨out, p, ⟨1, fun k hk => ?_⟩, by omega, hz, by omega, by omega⟩
    obtain ⟨m, rfl⟩ : ∃ m, k = m + 1 := ⟨k - 1, by omega⟩
    simp [spec_l30Turn.l0]
  | d + 1, out, p, h0, h1, h2, hz => by
    have e1 : wrap64 ((out.length : Int) + 1) = out.length + 1 := w64 (by omega) (by omega)
    have e2 : wrap64 (((d + 1 : Nat) : Int) - 1) = (d : Int) := by rw [w64 (by omega) (by omega)]; omega
    obtain ⟨i, hi, hi0, hi1⟩ := pick_ev hb (p := p) ⟨h0, by omega⟩ (n := out.length + 1) (by omega)
    obtain ⟨c, hc, hc0, hc1⟩ := pick_ev hb (p := p + 1) ⟨by omega, by omega⟩ (n := 3) (by omega)
    obtain ⟨s, hs, hs1⟩ := line_ev hb (p := p + 1 + 1) ⟨by omega, by omega⟩
    have hi2 : i ≤ out.length := by have := hi1 (by omega); omega
    obtain ⟨n, rfl⟩ := toNat_of hi0
    have step : ∀ (o2 : List ByteArray) (q : Int), o2.length ≤ max out.length 10 → Sz o2 → p ≤ q → q ≤ p + 3 → (∀ r, Ev (fun k => spec_l30Turn.l0 k o2 d b q) r → Ev (fun k => spec_l30Turn.l0 (k + 1) out ((d + 1 : Nat) : Int) b p) r) →
        ∃ r q, Ev (fun k => spec_l30Turn.l0 k out ((d + 1 : Nat) : Int) b p) (r, q) ∧ r.length ≤ max out.length 10 ∧ Sz r ∧ p ≤ q ∧ q ≤ p + 3 * ((d + 1 : Nat) : Int) := by
      intro o2 q g1 gz g2 g3 g4
      obtain ⟨r, q', hr, hl, hz2, g5, g6⟩ := turn0_ev hb d o2 q (by omega) (by omega) (by omega) gz
      exact ⟨r, q', Ev.step' (g4 _ hr), by omega, hz2, by omega, by omega⟩
    have wn : wrap64 ((n : Int) + 1) = n + 1 := w64 (by omega) (by omega)
    have hd : ((d + 1 : Nat) : Int) > 0 := by omega
    by_cases c0 : c = 0
    · by_cases g : (out.length : Int) < 10
      · refine step (([] ++ out.take (n : Int).toNat) ++ [s] ++ out.drop (n : Int).toNat) (p + 1 + 1 + 1) (by simp; omega) (((Sz.nil.app (hz.take _)).app (Sz.one hs1)).app (hz.drop _)) (by omega) (by omega) (fun r h => ?_)
        simp only [spec_l30Turn.l0, e1, e2]
        exact Ev.posf hd (Ev.bind hi (Ev.bind hc (Ev.posf c0 (Ev.posf g (Ev.somef (Ev.posf hi0 (Ev.posf hi2 (Ev.somef (Ev.posf (by simp; omega) (Ev.somef (Ev.bind hs (Ev.posf (by simp; omega) (Ev.somef (Ev.somef (Ev.posf (by simp; omega) h)))))))))))))))
      · refine step out (p + 1 + 1) (by omega) hz (by omega) (by omega) (fun r h => ?_)
        simp only [spec_l30Turn.l0, e1, e2]
        exact Ev.posf hd (Ev.bind hi (Ev.bind hc (Ev.posf c0 (Ev.negf g h))))
    · by_cases c1 : c = 1
      · by_cases g : (n : Int) < out.length
        · refine step (([] ++ out.take (n : Int).toNat) ++ out.drop ((n : Int) + 1).toNat) (p + 1 + 1) (by simp; omega) ((Sz.nil.app (hz.take _)).app (hz.drop _)) (by omega) (by omega) (fun r h => ?_)
          simp only [spec_l30Turn.l0, e1, e2]
          refine Ev.posf hd (Ev.bind hi (Ev.bind hc ?_))
          simp only [wn, Option.bind_some]
          exact Ev.negf c0 (Ev.posf c1 (Ev.posf g (Ev.posf hi0 (Ev.posf hi2 (Ev.posf (by simp; omega) (Ev.posf (by omega) (Ev.posf (by omega) (Ev.posf (by simp; omega) h))))))))
        · refine step out (p + 1 + 1) (by omega) hz (by omega) (by omega) (fun r h => ?_)
          simp only [spec_l30Turn.l0, e1, e2]
          exact Ev.posf hd (Ev.bind hi (Ev.bind hc (Ev.negf c0 (Ev.posf c1 (Ev.negf g h)))))
      · by_cases g : (n : Int) < out.length
        · refine step (out.set (n : Int).toNat s) (p + 1 + 1 + 1) (by simp; omega) (hz.set _ hs1) (by omega) (by omega) (fun r h => ?_)
          simp only [spec_l30Turn.l0, e1, e2]
          exact Ev.posf hd (Ev.bind hi (Ev.bind hc (Ev.negf c0 (Ev.negf c1 (Ev.posf g (Ev.bind hs (Ev.posf hi0 h)))))))
        · refine step out (p + 1 + 1) (by omega) hz (by omega) (by omega) (fun r h => ?_)
          simp only [spec_l30Turn.l0, e1, e2]
          exact Ev.posf hd (Ev.bind hi (Ev.bind hc (Ev.negf c0 (Ev.negf c1 (Ev.negf g h)))))
theorem turn_ev {b : List Int} (hb : Code b) {p : Int} (h0 : 0 ≤ p) (h1 : p ≤ 1000000) (t : List ByteArray) (ht : t.length ≤ 1000) (hz : Sz t) :
    ∃ r q, Ev (fun k => spec_l30Turn.f k b p t) (r, q) ∧ r.length ≤ max t.length 10 ∧ Sz r ∧ p ≤ q ∧ q ≤ p + 10 := by
  obtain ⟨c, hc, hc0, hc1⟩ := pick_ev hb (p := p) ⟨h0, by omega⟩ (n := 4) (by omega)
  have hc2 := hc1 (by omega)
  obtain ⟨d, rfl⟩ := toNat_of hc0
  obtain ⟨r, q, hr, hl, hz2, g1, g2⟩ := turn0_ev hb d ([] ++ t) (p + 1) (by omega) (by omega) (by simpa using ht) (Sz.nil.app hz)
  refine ⟨r, q, ?_, by simpa using hl, hz2, by omega, by omega⟩
  unfold spec_l30Turn.f
  exact Ev.somef (Ev.posf (by simp; omega) (Ev.bind hc hr))
theorem open_ev {l : List Int} (hw : ∀ x ∈ l, 0 ≤ x ∧ x ≤ 255) : ∃ b, spec_l30Open.f l = some (b, 0) ∧ Code b := by
  unfold spec_l30Open.f
  by_cases h : (l.length : Int) > 2000
  · exact ⟨l.take 2000, by rw [if_pos h, if_pos (by omega)], by simp; omega, fun x hx => hw x (List.mem_of_mem_take hx)⟩
  · exact ⟨l, by rw [if_neg h], by omega, hw⟩
end Go.Proofs.Ytfnhjaiioojbkaa.Q
end
section
namespace Go.Proofs.Ytfnhjaiioojbkaa.Q
open Go.RowKit Go.Proofs.YtfnhjaiioojbkaaW.PrintWords
set_option linter.unusedVariables false
set_option linter.unusedSimpArgs false
def okc (c : UInt8) : Bool := decide (32 ≤ c.toNat) && decide (c.toNat ≤ 126)
def lineB (s : ByteArray) : Bool := s.data.toList.all okc && decide (s.size ≤ 12)
def textB (l : List ByteArray) : Bool := decide (l.length ≤ 10) && l.all lineB
/-- Not too long for a loop over it. -/
def Sm (l : List ByteArray) : Prop := l.length ≤ 100000 ∧ ∀ s ∈ l, s.size ≤ 100000
theorem bt_nat {s : ByteArray} {i : Nat} (h : i < s.size) : bt s (i : Int) = ((s.data.toList[i]'(by simpa using h)).toNat : Int) := by
  simp [bt, h]
  rfl
theorem drop_all {α : Type} (p : α → Bool) (l : List α) (i : Nat) (h : i < l.length) : (l.drop i).all p = (p l[i] && (l.drop (i + 1)).all p) := by
  rw [List.drop_eq_getElem_cons h, List.all_cons]
theorem implLine0_ev (s : ByteArray) (hs : s.size ≤ 100000) : ∀ (d i : Nat), i ≤ s.size → s.size - i = d →
    Ev (fun k => impl_lineOk.l0 k s s.size i) ((s.data.toList.drop i).all okc && decide (s.size ≤ 12))
  | 0, i, hi, hd => by
    refine Ev.step' ?_
    simp only [impl_lineOk.l0]
    refine Ev.negf (by omega) ?_
    have e : s.data.toList.drop i = [] := List.drop_eq_nil_of_le (by have : s.data.toList.length = s.size := by simp
                                                                     omega)
    rw [e]
    exact EvT (Ev.now _) (by simp; omega)
  | d + 1, i, hi, hd => by
    have hl : i < s.size := by omega
    have hl2 : i < s.data.toList.length := by simpa using hl
    refine Ev.step' ?_
    simp only [impl_lineOk.l0]
    rw [drop_all okc _ i hl2, bt_nat hl]
    refine Ev.posf (by omega) (Ev.posf (by omega) (Ev.posf (by omega) ?_))
    by_cases h1 : (((s.data.toList[i]'hl2).toNat : Nat) : Int) < 32
    · refine Ev.posf h1 (EvT (Ev.now _) ?_)
      have : okc (s.data.toList[i]'hl2) = false := by simp only [okc, Bool.and_eq_false_iff, decide_eq_false_iff_not]; omega
      rw [this]; rfl
    · by_cases h2 : (((s.data.toList[i]'hl2).toNat : Nat) : Int) > 126
      · refine Ev.negf h1 (Ev.posf h2 (EvT (Ev.now _) ?_))
        have : okc (s.data.toList[i]'hl2) = false := by simp only [okc, Bool.and_eq_false_iff, decide_eq_false_iff_not]; omega
        rw [this]; rfl
      · refine Ev.negf h1 (Ev.negf h2 ?_)
        have : okc (s.data.toList[i]'hl2) = true := by simp only [okc, Bool.and_eq_true, decide_eq_true_eq]; omega
        rw [this, Bool.true_and, show wrap64 ((i : Int) + 1) = ((i + 1 : Nat) : Int) by rw [w64 (by omega) (by omega)]; omega]
        exact implLine0_ev s hs d (i + 1) (by omega) (by omega)
theorem implLine_ev (s : ByteArray) (hs : s.size ≤ 100000) : Ev (fun k => impl_lineOk.f k s) (lineB s) := by
  unfold impl_lineOk.f
  exact EvT (implLine0_ev s hs _ 0 (by omega) rfl) (by simp [lineB])
theorem specLine0_ev (s : ByteArray) (hs : s.size ≤ 100000) : ∀ (d i : Nat), i ≤ s.size → s.size - i = d →
    Ev (fun k => spec_l1Line.l0 k s i) ((s.data.toList.drop i).all okc && decide (s.size ≤ 12))
  | 0, i, hi, hd => by
    refine Ev.step' ?_
    simp only [spec_l1Line.l0]
    refine Ev.negf (by omega) ?_
    have e : s.data.toList.drop i = [] := List.drop_eq_nil_of_le (by have : s.data.toList.length = s.size := by simp
                                                                     omega)
    rw [e]
    exact EvT (Ev.now _) (by simp; omega)
  | d + 1, i, hi, hd => by
    have hl : i < s.size := by omega
    have hl2 : i < s.data.toList.length := by simpa using hl
    refine Ev.step' ?_
    simp only [spec_l1Line.l0]
    rw [drop_all okc _ i hl2, bt_nat hl]
    refine Ev.posf (by omega) (Ev.posf (by omega) ?_)
    by_cases h1 : (((s.data.toList[i]'hl2).toNat : Nat) : Int) < 32
    · refine Ev.posf h1 (EvT (Ev.now _) ?_)
      have : okc (s.data.toList[i]'hl2) = false := by simp only [okc, Bool.and_eq_false_iff, decide_eq_false_iff_not]; omega
      rw [this]; rfl
    · by_cases h2 : (((s.data.toList[i]'hl2).toNat : Nat) : Int) > 126
      · refine Ev.negf h1 (Ev.posf h2 (EvT (Ev.now _) ?_))
        have : okc (s.data.toList[i]'hl2) = false := by simp only [okc, Bool.and_eq_false_iff, decide_eq_false_iff_not]; omega
        rw [this]; rfl
      · refine Ev.negf h1 (Ev.negf h2 ?_)
        have : okc (s.data.toList[i]'hl2) = true := by simp only [okc, Bool.and_eq_true, decide_eq_true_eq]; omega
        rw [this, Bool.true_and, show wrap64 ((i : Int) + 1) = ((i + 1 : Nat) : Int) by rw [w64 (by omega) (by omega)]; omega]
        exact specLine0_ev s hs d (i + 1) (by omega) (by omega)
theorem specLine_ev (s : ByteArray) (hs : s.size ≤ 100000) : Ev (fun k => spec_l1Line.f k s) (lineB s) := by
  unfold spec_l1Line.f
  exact EvT (specLine0_ev s hs _ 0 (by omega) rfl) (by simp [lineB])
theorem anyF_ev {α : Type} (f : Nat → α → Option Bool) (p : α → Bool) : ∀ l : List α, (∀ x ∈ l, Ev (fun k => f k x) (p x)) → Ev (fun k => anyF (f k) l) (l.any p)
  | [], h => Ev.now _
  | x :: t, h => by
    show Ev (fun k => (f k x).bind fun b => if b then some true else anyF (f k) t) ((x :: t).any p)
    refine Ev.bind (h x List.mem_cons_self) ?_
    cases e : p x with
    | true => exact EvT (Ev.posf rfl (Ev.now _)) (by simp [e])
    | false => exact EvT (Ev.negf (by simp) (anyF_ev f p t (fun y hy => h y (List.mem_cons_of_mem _ hy)))) (by simp [e])
theorem implText_ev (l : List ByteArray) (hl : Sm l) : Ev (fun k => impl_TextOk.f k l) (textB l) := by
  unfold impl_TextOk.f
  by_cases c : l.length ≤ 10
  · refine Ev.posf c (EvT (Ev.mapf _ (anyF_ev impl_TextOk_1.f (fun s => !lineB s) l (fun x hx => ?_))) ?_)
    · unfold impl_TextOk_1.f
      exact Ev.bind (implLine_ev x (hl.2 x hx)) (Ev.now _)
    · rw [textB, decide_eq_true c, Bool.true_and, ← List.not_all_eq_any_not]
      simp
  · exact Ev.negf c (EvT (Ev.now _) (by simp [textB]; omega))
theorem specText0_ev (l : List ByteArray) (hl : Sm l) : ∀ (d i : Nat), i ≤ l.length → l.length - i = d →
    Ev (fun k => spec_l1Ok.l0 k l i) ((l.drop i).all lineB && decide (l.length ≤ 10))
  | 0, i, hi, hd => by
    refine Ev.step' ?_
    simp only [spec_l1Ok.l0]
    refine Ev.negf (by omega) ?_
    rw [List.drop_eq_nil_of_le (by omega)]
    exact EvT (Ev.now _) (by simp; omega)
  | d + 1, i, hi, hd => by
    have hlt : i < l.length := by omega
    have hl1 := hl.1
    refine Ev.step' ?_
    simp only [spec_l1Ok.l0]
    rw [drop_all lineB l i hlt, rdAt hlt]
    refine Ev.posf (by omega) (Ev.posf (by omega) (Ev.bind (specLine_ev _ (hl.2 _ (List.getElem_mem hlt))) ?_))
    cases e : lineB l[i] with
    | false => exact Ev.negf (by simp) (EvT (Ev.now _) (by simp))
    | true =>
      refine Ev.posf rfl ?_
      rw [Bool.true_and, show wrap64 ((i : Int) + 1) = ((i + 1 : Nat) : Int) by rw [w64 (by omega) (by omega)]; omega]
      exact specText0_ev l hl d (i + 1) (by omega) (by omega)
theorem specText_ev (l : List ByteArray) (hl : Sm l) : Ev (fun k => spec_l1Ok.f k l) (textB l) := by
  unfold spec_l1Ok.f
  exact EvT (specText0_ev l hl _ 0 (by omega) rfl) (by simp [textB, Bool.and_comm])
theorem smTexts0_ev (a b : List ByteArray) (h : a.length = b.length) (hs : a.length ≤ 100000000) : ∀ (d i : Nat), i ≤ a.length → a.length - i = d →
    ∃ r, Ev (fun k => laws_smTexts.l0 k a b i) r ∧ (r = true ↔ a.drop i = b.drop i)
  | 0, i, hi, hd => by
    refine ⟨true, Ev.step' ?_, ?_⟩
    · simp only [laws_smTexts.l0]
      exact Ev.negf (by omega) (Ev.now _)
    · rw [List.drop_eq_nil_of_le (by omega), List.drop_eq_nil_of_le (by omega)]; simp
  | d + 1, i, hi, hd => by
    have h1 : i < a.length := by omega
    have h2 : i < b.length := by omega
    rw [List.drop_eq_getElem_cons h1, List.drop_eq_getElem_cons h2]
    by_cases c : a[i].toList = b[i].toList
    · obtain ⟨r, hr, he⟩ := smTexts0_ev a b h hs d (i + 1) (by omega) (by omega)
      refine ⟨r, Ev.step' ?_, ?_⟩
      · simp only [laws_smTexts.l0]
        rw [rdAt h1, rdAt h2, show wrap64 ((i : Int) + 1) = ((i + 1 : Nat) : Int) by rw [w64 (by omega) (by omega)]; omega]
        exact Ev.posf (by omega) (Ev.posf (by omega) (Ev.posf (by omega) (Ev.posf c hr)))
      · rw [he, bstr.mp c]; exact ⟨fun e => by rw [e], fun e => (List.cons.inj e).2⟩
    · refine ⟨false, Ev.step' ?_, ?_⟩
      · simp only [laws_smTexts.l0]
        rw [rdAt h1, rdAt h2]
        exact Ev.posf (by omega) (Ev.posf (by omega) (Ev.posf (by omega) (Ev.negf c (Ev.now _))))
      · exact ⟨fun e => (by cases e), fun e => absurd (bstr.mpr (List.cons.inj e).1) c⟩
theorem smTexts_ev (a b : List ByteArray) (hs : a.length ≤ 100000000) : ∃ r, Ev (fun k => laws_smTexts.f k a b) r ∧ (r = true ↔ a = b) := by
  unfold laws_smTexts.f
  by_cases h : a.length = b.length
  · obtain ⟨r, hr, he⟩ := smTexts0_ev a b h hs _ 0 (by omega) rfl
    exact ⟨r, Ev.posf (by omega) hr, by simpa using he⟩
  · exact ⟨false, Ev.negf (by omega) (Ev.now _), by simp; intro e; exact h (by rw [e])⟩
theorem smTexts_refl (a : List ByteArray) (hs : a.length ≤ 100000000) : Ev (fun k => laws_smTexts.f k a a) true := by
  obtain ⟨r, hr, he⟩ := smTexts_ev a a hs
  rw [he.mpr rfl] at hr
  exact hr
end Go.Proofs.Ytfnhjaiioojbkaa.Q
end
section
namespace Go.Proofs.Ytfnhjaiioojbkaa.Q
open Go.RowKit Go.Proofs.YtfnhjaiioojbkaaW.PrintWords
set_option linter.unusedVariables false
set_option linter.unusedSimpArgs false
abbrev Dl := S39
abbrev Tx := List ByteArray
/-- How many lines two texts begin with together. -/
def pre : Tx → Tx → Nat
  | a :: s, b :: t => if a.toList = b.toList then pre s t + 1 else 0
  | _, _ => 0
def lrGo (t : Tx) : Tx → Int → Int → Int → Int × Int
  | [], _, f, m => (f, m)
  | b :: s, i, f, m => if (pre (b :: s) t : Int) > m then lrGo t s (i + 1) i (pre (b :: s) t) else lrGo t s (i + 1) f m
def lr (base t : Tx) : Int × Int := lrGo t base 0 0 0
def dGo (base : Tx) : Nat → Tx → List Dl → List Dl
  | 0, _, out => out
  | _, [], out => out
  | n + 1, b :: t, out =>
    if (lr base (b :: t)).2 > 0 then dGo base n ((b :: t).drop (lr base (b :: t)).2.toNat) (out ++ [⟨(lr base (b :: t)).1, (lr base (b :: t)).2, []⟩])
    else if 0 < out.length ∧ (rd_T39 out ((out.length : Int) - 1)).f1 = 0 then
      dGo base n t (out.set (out.length - 1) ⟨(rd_T39 out ((out.length : Int) - 1)).f0, (rd_T39 out ((out.length : Int) - 1)).f1, (rd_T39 out ((out.length : Int) - 1)).f2 ++ [b]⟩)
    else dGo base n t (out ++ [⟨0, 0, [b]⟩])
def dOf (base t : Tx) : List Dl := dGo base t.length t []
theorem pre_nil_left (t : Tx) : pre [] t = 0 := by simp [pre]
theorem pre_nil_right : ∀ s : Tx, pre s [] = 0
  | [] => rfl
  | _ :: _ => rfl
theorem pre_cons_pos {a b : ByteArray} {s t : Tx} (h : a.toList = b.toList) : pre (a :: s) (b :: t) = pre s t + 1 := if_pos h
theorem pre_cons_neg {a b : ByteArray} {s t : Tx} (h : ¬ a.toList = b.toList) : pre (a :: s) (b :: t) = 0 := if_neg h
theorem pre_le : ∀ s t : Tx, pre s t ≤ s.length ∧ pre s t ≤ t.length
  | a :: s, b :: t => by
    have := pre_le s t
    unfold pre
    split <;> simp <;> omega
  | [], t => by simp [pre]
  | a :: s, [] => by simp [pre]
theorem pre_take : ∀ s t : Tx, s.take (pre s t) = t.take (pre s t)
  | a :: s, b :: t => by
    unfold pre
    split
    · rename_i h
      rw [List.take_succ_cons, List.take_succ_cons, pre_take s t, bstr.mp h]
    · rfl
  | [], t => by simp [pre]
  | a :: s, [] => by simp [pre]
theorem pre_self : ∀ s : Tx, pre s s = s.length
  | [] => rfl
  | a :: s => by simp [pre, pre_self s]
/-- A run: lines of the base with which the text begins. -/
def Run (base t : Tx) (r : Int × Int) : Prop := 0 ≤ r.1 ∧ 0 ≤ r.2 ∧ r.1 + r.2 ≤ base.length ∧ r.2 ≤ t.length ∧ (base.drop r.1.toNat).take r.2.toNat = t.take r.2.toNat
theorem lrGo_run (base t : Tx) : ∀ (s : Tx) (i : Nat) (f m : Int), base.drop i = s → i + s.length = base.length → Run base t (f, m) → Run base t (lrGo t s i f m)
  | [], i, f, m, hs, hl, h => h
  | b :: s, i, f, m, hs, hl, h => by
    have hs' : base.drop (i + 1) = s := by rw [← List.drop_drop, hs]; rfl
    have hl' : i + 1 + s.length = base.length := by simp at hl; omega
    have hp := pre_le (b :: s) t
    unfold lrGo
    split
    · refine lrGo_run base t s (i + 1) _ _ hs' hl' ⟨by simp, by simp, ?_, ?_, ?_⟩
      · simp at hp ⊢; omega
      · simp at hp ⊢; omega
      · simp only [Int.toNat_natCast]
        rw [hs]
        exact pre_take _ _
    · exact lrGo_run base t s (i + 1) f m hs' hl' h
theorem lr_run (base t : Tx) : Run base t (lr base t) := lrGo_run base t base 0 0 0 rfl (by simp) ⟨by simp, by simp, by simp, by simp, by simp⟩
theorem lrGo_small (t : Tx) : ∀ (s : Tx) (i f m : Int), (s.length : Int) ≤ m → lrGo t s i f m = (f, m)
  | [], i, f, m, h => rfl
  | b :: s, i, f, m, h => by
    have hp := pre_le (b :: s) t
    unfold lrGo
    rw [if_neg (by omega)]
    exact lrGo_small t s _ f m (by simp at h; omega)
theorem lr_self (b : ByteArray) (s : Tx) : lr (b :: s) (b :: s) = (0, ((b :: s).length : Int)) := by
  unfold lr lrGo
  rw [pre_self, if_pos (by simp)]
  exact lrGo_small _ _ _ _ _ (by simp; omega)
/-- What a piece makes. -/
def seg (base : Tx) (x : Dl) : Tx := (base.take (x.f0 + x.f1).toNat).drop x.f0.toNat ++ x.f2
def ap (base : Tx) (d : List Dl) : Tx := d.flatMap (seg base)
def Piece (base : Tx) (x : Dl) : Prop := (1 ≤ x.f1 ∧ 0 ≤ x.f0 ∧ x.f0 + x.f1 ≤ base.length ∧ x.f2 = []) ∨ (x.f0 = 0 ∧ x.f1 = 0 ∧ 1 ≤ x.f2.length)
theorem piece_len {base : Tx} {x : Dl} (h : Piece base x) : 1 ≤ (seg base x).length ∧ x.f2.length ≤ (seg base x).length ∧ 0 ≤ x.f0 ∧ 0 ≤ x.f1 ∧ x.f0 + x.f1 ≤ base.length := by
  unfold seg
  rcases h with ⟨h1, h2, h3, h4⟩ | ⟨h1, h2, h3⟩
  · simp [h4]; omega
  · simp [h1, h2]; omega
theorem ap_snoc (base : Tx) (d : List Dl) (x : Dl) : ap base (d ++ [x]) = ap base d ++ seg base x := by simp [ap]
theorem ap_len {base : Tx} : ∀ {d : List Dl}, (∀ x ∈ d, Piece base x) → d.length ≤ (ap base d).length
  | [], _ => by simp
  | x :: d, h => by
    have h1 := (piece_len (h x List.mem_cons_self)).1
    have h2 := ap_len (fun y hy => h y (List.mem_cons_of_mem _ hy)) (d := d)
    simp [ap] at h2 ⊢
    omega
theorem mem_ap {base : Tx} {d : List Dl} {x : Dl} (hx : x ∈ d) {s : ByteArray} (hs : s ∈ x.f2) : s ∈ ap base d := by
  simp only [ap, List.mem_flatMap]
  exact ⟨x, hx, by simp [seg, hs]⟩
theorem rdD {d : List Dl} {i : Nat} (h : i < d.length) : rd_T39 d (i : Int) = d[i] := by
  simp [rd_T39, List.getD_eq_getElem?_getD, h]
theorem rd_last {d : List Dl} (x : Dl) : rd_T39 (d ++ [x]) (((d ++ [x]).length : Int) - 1) = x := by
  have e : (((d ++ [x]).length : Int) - 1) = ((d.length : Nat) : Int) := by simp
  rw [e, rdD (by simp)]
  simp
theorem set_last (d : List Dl) (x y : Dl) : (d ++ [x]).set ((d ++ [x]).length - 1) y = d ++ [y] := by
  simp
/-- The last piece, as the text has it. -/
theorem last_of {d : List Dl} (h : 0 < d.length) : ∃ d' x, d = d' ++ [x] := ⟨d.dropLast, d.getLast (by intro e; rw [e] at h; simp at h), (List.dropLast_concat_getLast _).symm⟩
theorem dGo_right (base : Tx) : ∀ (n : Nat) (t : Tx) (out : List Dl), t.length ≤ n → (∀ x ∈ out, Piece base x) → ap base (dGo base n t out) = ap base out ++ t ∧ ∀ x ∈ dGo base n t out, Piece base x
  | 0, t, out, hn, h => by
    have : t = [] := List.eq_nil_of_length_eq_zero (by omega)
    subst this
    simpa [dGo] using h
  | n + 1, [], out, hn, h => by simpa [dGo] using h
  | n + 1, b :: t, out, hn, h => by
    have hr := lr_run base (b :: t)
    unfold dGo
    by_cases c : (lr base (b :: t)).2 > 0
    · rw [if_pos c]
      obtain ⟨r1, r2, r3, r4, r5⟩ := hr
      have hp : Piece base ⟨(lr base (b :: t)).1, (lr base (b :: t)).2, []⟩ := .inl ⟨by show 1 ≤ (lr base (b :: t)).2; omega, r1, r3, rfl⟩
      have := dGo_right base n ((b :: t).drop (lr base (b :: t)).2.toNat) (out ++ [⟨(lr base (b :: t)).1, (lr base (b :: t)).2, []⟩]) (by simp at hn ⊢; omega)
        (fun x hx => by simp at hx; rcases hx with hx | rfl; exact h x hx; exact hp)
      refine ⟨?_, this.2⟩
      rw [this.1, ap_snoc, List.append_assoc]
      congr 1
      show (base.take ((lr base (b :: t)).1 + (lr base (b :: t)).2).toNat).drop (lr base (b :: t)).1.toNat ++ [] ++ _ = _
      rw [show ((lr base (b :: t)).1 + (lr base (b :: t)).2).toNat = (lr base (b :: t)).1.toNat + (lr base (b :: t)).2.toNat by omega, List.append_nil, ← List.take_drop, r5, List.take_append_drop]
    · rw [if_neg c]
      split
      · rename_i g
        obtain ⟨d, x, rfl⟩ := last_of g.1
        rw [rd_last, set_last]
        rw [rd_last] at g
        have hx := h x (by simp)
        have hx2 : x.f0 = 0 ∧ 1 ≤ x.f2.length := by
          rcases hx with ⟨h1, _⟩ | ⟨h1, _, h3⟩
          · exact absurd g.2 (by omega)
          · exact ⟨h1, h3⟩
        have := dGo_right base n t (d ++ [⟨x.f0, x.f1, x.f2 ++ [b]⟩]) (by simp at hn; omega)
          (fun y hy => by simp at hy; rcases hy with hy | rfl; exact h y (by simp [hy]); exact .inr ⟨hx2.1, g.2, by simp⟩)
        refine ⟨?_, this.2⟩
        rw [this.1, ap_snoc, ap_snoc]
        simp [seg]
      · have := dGo_right base n t (out ++ [⟨0, 0, [b]⟩]) (by simp at hn; omega)
          (fun y hy => by simp at hy; rcases hy with hy | rfl; exact h y hy; exact .inr ⟨rfl, rfl, by simp⟩)
        refine ⟨?_, this.2⟩
        rw [this.1, ap_snoc]
        simp [seg]
theorem dOf_right (base t : Tx) : ap base (dOf base t) = t ∧ ∀ x ∈ dOf base t, Piece base x := by
  have := dGo_right base t.length t [] (Nat.le_refl _) (by simp)
  simpa [ap, dOf] using this
theorem dOf_self : ∀ b : Tx, dOf b b = if b = [] then [] else [⟨0, b.length, []⟩]
  | [] => rfl
  | b :: t => by
    unfold dOf
    rw [List.length_cons, dGo, lr_self, if_pos (by simp)]
    simp [dGo]
    cases t <;> simp [dGo]
theorem lr_nil (t : Tx) : lr [] t = (0, 0) := rfl
theorem dGo_nil : ∀ (n : Nat) (t u : Tx), t.length ≤ n → u ≠ [] → dGo [] n t [⟨0, 0, u⟩] = [⟨0, 0, u ++ t⟩]
  | 0, t, u, h, hu => by
    have : t = [] := List.eq_nil_of_length_eq_zero (by omega)
    subst this
    simp [dGo]
  | n + 1, [], u, h, hu => by simp [dGo]
  | n + 1, b :: t, u, h, hu => by
    rw [dGo, lr_nil, if_neg (by simp), if_pos ⟨by simp, rfl⟩]
    show dGo [] n t [⟨0, 0, u ++ [b]⟩] = _
    rw [dGo_nil n t (u ++ [b]) (by simp at h; omega) (by simp)]
    simp
theorem dOf_nil : ∀ b : Tx, dOf [] b = if b = [] then [] else [⟨0, 0, b⟩]
  | [] => rfl
  | b :: t => by
    unfold dOf
    rw [List.length_cons, dGo, lr_nil, if_neg (by simp), if_neg (by simp)]
    rw [List.nil_append, dGo_nil _ _ _ (Nat.le_refl _) (by simp)]
    simp
end Go.Proofs.Ytfnhjaiioojbkaa.Q
end
section
namespace Go.Proofs.Ytfnhjaiioojbkaa.Q
open Go.RowKit Go.Proofs.YtfnhjaiioojbkaaW.PrintWords
set_option linter.unusedVariables false
set_option linter.unusedSimpArgs false
theorem implRun1_ev {base t : Tx} (hb : base.length ≤ 100000) (ht : t.length ≤ 100000) (i : Nat) (f m : Int) (r : Int × Int) : ∀ (d n N : Nat), base.length - (i + n) = d → i + n ≤ base.length → n ≤ t.length → N = n + pre (base.drop (i + n)) (t.drop n) →
    Ev (fun k => impl_longestRun.l0 k base t (if (N : Int) > m then i else f) (if (N : Int) > m then (N : Int) else m) base.length ((i + 1 : Nat) : Int)) r →
    Ev (fun k => impl_longestRun.l1 k base t f m i n base.length i) r := by
  intro d
  induction d with
  | zero =>
    intro n N hd h1 h2 hN h
    have e : base.drop (i + n) = [] := List.drop_eq_nil_of_le (by omega)
    have hNn : n = N := by rw [hN, e, pre_nil_left, Nat.add_zero]
    subst hNn
    refine Ev.step' ?_
    simp only [impl_longestRun.l1, w64_add i n (by omega), w64_succ i (by omega)]
    refine Ev.negf (by omega) ?_
    by_cases c : (n : Int) > m
    · rw [if_pos c, if_pos c] at h; exact Ev.posf c h
    · rw [if_neg c, if_neg c] at h; exact Ev.negf c h
  | succ d ih =>
    intro n N hd h1 h2 hN h
    have g1 : i + n < base.length := by omega
    refine Ev.step' ?_
    simp only [impl_longestRun.l1, w64_add i n (by omega), w64_succ i (by omega), w64_succ n (by omega)]
    refine Ev.posf (by omega) ?_
    by_cases g2 : n < t.length
    · refine Ev.posf (by omega) (Ev.posf (by omega) (Ev.posf (by omega) ?_))
      rw [rdAt g1, rdAt g2]
      rw [List.drop_eq_getElem_cons g1, List.drop_eq_getElem_cons g2] at hN
      by_cases c : base[i + n].toList = t[n].toList
      · rw [pre_cons_pos c] at hN
        exact Ev.posf c (ih (n + 1) N (by omega) (by omega) (by omega) (by rw [hN, show i + (n + 1) = i + n + 1 by omega]; omega) h)
      · rw [pre_cons_neg c, Nat.add_zero] at hN
        have hNn : n = N := hN.symm
        subst hNn
        refine Ev.negf c ?_
        by_cases c : (n : Int) > m
        · rw [if_pos c, if_pos c] at h; exact Ev.posf c h
        · rw [if_neg c, if_neg c] at h; exact Ev.negf c h
    · have e : t.drop n = [] := List.drop_eq_nil_of_le (by omega)
      have hNn : n = N := by rw [hN, e, pre_nil_right, Nat.add_zero]
      subst hNn
      refine Ev.negf (by omega) ?_
      by_cases c : (n : Int) > m
      · rw [if_pos c, if_pos c] at h; exact Ev.posf c h
      · rw [if_neg c, if_neg c] at h; exact Ev.negf c h
theorem implRun0_ev {base t : Tx} (hb : base.length ≤ 100000) (ht : t.length ≤ 100000) : ∀ (d i : Nat) (f m : Int), base.length - i = d → i ≤ base.length → Ev (fun k => impl_longestRun.l0 k base t f m base.length i) (lrGo t (base.drop i) i f m)
  | 0, i, f, m, hd, hi => by
    rw [List.drop_eq_nil_of_le (by omega)]
    refine Ev.step' ?_
    simp only [impl_longestRun.l0]
    exact Ev.negf (by omega) (Ev.now _)
  | d + 1, i, f, m, hd, hi => by
    have g : i < base.length := by omega
    refine Ev.step' ?_
    simp only [impl_longestRun.l0]
    refine Ev.posf (by omega) (implRun1_ev hb ht i f m _ _ 0 _ rfl (by omega) (by omega) rfl ?_)
    have e := List.drop_eq_getElem_cons g
    rw [e, lrGo, ← e]
    simp only [Nat.zero_add, Nat.add_zero, List.drop_zero]
    by_cases c : (pre (base.drop i) t : Int) > m
    · rw [if_pos c, if_pos c, if_pos c]
      exact implRun0_ev hb ht d (i + 1) _ _ (by omega) (by omega)
    · rw [if_neg c, if_neg c, if_neg c]
      exact implRun0_ev hb ht d (i + 1) _ _ (by omega) (by omega)
theorem implRun_ev {base t : Tx} (hb : base.length ≤ 100000) (ht : t.length ≤ 100000) : Ev (fun k => impl_longestRun.f k base t) (lr base t) := by
  unfold impl_longestRun.f
  exact implRun0_ev hb ht _ 0 0 0 rfl (by omega)
theorem specRun1_ev {base t : Tx} (hb : base.length ≤ 100000) (ht : t.length ≤ 100000) (i : Nat) (f m : Int) (r : Int × Int) : ∀ (d n N : Nat), base.length - (i + n) = d → i + n ≤ base.length → n ≤ t.length → N = n + pre (base.drop (i + n)) (t.drop n) →
    Ev (fun k => spec_l13Run.l0 k base t (if (N : Int) > m then i else f) (if (N : Int) > m then (N : Int) else m) ((i + 1 : Nat) : Int)) r →
    Ev (fun k => spec_l13Run.l1 k base t f m i n) r := by
  intro d
  induction d with
  | zero =>
    intro n N hd h1 h2 hN h
    have e : base.drop (i + n) = [] := List.drop_eq_nil_of_le (by omega)
    have hNn : n = N := by rw [hN, e, pre_nil_left, Nat.add_zero]
    subst hNn
    refine Ev.step' ?_
    simp only [spec_l13Run.l1, w64_add i n (by omega), w64_succ i (by omega)]
    refine Ev.negf (by omega) ?_
    by_cases c : (n : Int) > m
    · rw [if_pos c, if_pos c] at h; exact Ev.posf c h
    · rw [if_neg c, if_neg c] at h; exact Ev.negf c h
  | succ d ih =>
    intro n N hd h1 h2 hN h
    have g1 : i + n < base.length := by omega
    refine Ev.step' ?_
    simp only [spec_l13Run.l1, w64_add i n (by omega), w64_succ i (by omega), w64_succ n (by omega)]
    refine Ev.posf (by omega) ?_
    by_cases g2 : n < t.length
    · refine Ev.posf (by omega) (Ev.posf (by omega) (Ev.posf (by omega) ?_))
      rw [rdAt g1, rdAt g2]
      rw [List.drop_eq_getElem_cons g1, List.drop_eq_getElem_cons g2] at hN
      by_cases c : base[i + n].toList = t[n].toList
      · rw [pre_cons_pos c] at hN
        exact Ev.posf c (ih (n + 1) N (by omega) (by omega) (by omega) (by rw [hN, show i + (n + 1) = i + n + 1 by omega]; omega) h)
      · rw [pre_cons_neg c, Nat.add_zero] at hN
        have hNn : n = N := hN.symm
        subst hNn
        refine Ev.negf c ?_
        by_cases c : (n : Int) > m
        · rw [if_pos c, if_pos c] at h; exact Ev.posf c h
        · rw [if_neg c, if_neg c] at h; exact Ev.negf c h
    · have e : t.drop n = [] := List.drop_eq_nil_of_le (by omega)
      have hNn : n = N := by rw [hN, e, pre_nil_right, Nat.add_zero]
      subst hNn
      refine Ev.negf (by omega) ?_
      by_cases c : (n : Int) > m
      · rw [if_pos c, if_pos c] at h; exact Ev.posf c h
      · rw [if_neg c, if_neg c] at h; exact Ev.negf c h
theorem specRun0_ev {base t : Tx} (hb : base.length ≤ 100000) (ht : t.length ≤ 100000) : ∀ (d i : Nat) (f m : Int), base.length - i = d → i ≤ base.length → Ev (fun k => spec_l13Run.l0 k base t f m i) (lrGo t (base.drop i) i f m)
  | 0, i, f, m, hd, hi => by
    rw [List.drop_eq_nil_of_le (by omega)]
    refine Ev.step' ?_
    simp only [spec_l13Run.l0]
    exact Ev.negf (by omega) (Ev.now _)
  | d + 1, i, f, m, hd, hi => by
    have g : i < base.length := by omega
    refine Ev.step' ?_
    simp only [spec_l13Run.l0]
    refine Ev.posf (by omega) (specRun1_ev hb ht i f m _ _ 0 _ rfl (by omega) (by omega) rfl ?_)
    have e := List.drop_eq_getElem_cons g
    rw [e, lrGo, ← e]
    simp only [Nat.zero_add, Nat.add_zero, List.drop_zero]
    by_cases c : (pre (base.drop i) t : Int) > m
    · rw [if_pos c, if_pos c, if_pos c]
      exact specRun0_ev hb ht d (i + 1) _ _ (by omega) (by omega)
    · rw [if_neg c, if_neg c, if_neg c]
      exact specRun0_ev hb ht d (i + 1) _ _ (by omega) (by omega)
theorem specRun_ev {base t : Tx} (hb : base.length ≤ 100000) (ht : t.length ≤ 100000) : Ev (fun k => spec_l13Run.f k base t) (lr base t) := by
  unfold spec_l13Run.f
  exact specRun0_ev hb ht _ 0 0 0 rfl (by omega)
theorem implOf0_ev {base : Tx} (hb : base.length ≤ 10000) : ∀ (n : Nat) (t : Tx) (out : List Dl), t.length ≤ n → n ≤ 10000 → out.length + n ≤ 20000 → (∀ x ∈ out, x.f2.length + n ≤ 20000) → Ev (fun k => impl_deltaOf.l0 k base t out) (dGo base n t out)
  | 0, t, out, h1, h2, h3, h4 => by
    have : t = [] := List.eq_nil_of_length_eq_zero (by omega)
    subst this
    refine Ev.step' ?_
    simp only [impl_deltaOf.l0, dGo]
    exact Ev.negf (by simp) (Ev.now _)
  | n + 1, [], out, h1, h2, h3, h4 => by
    refine Ev.step' ?_
    simp only [impl_deltaOf.l0, dGo]
    exact Ev.negf (by simp) (Ev.now _)
  | n + 1, b :: t, out, h1, h2, h3, h4 => by
    obtain ⟨r1, r2, r3, r4, r5⟩ := lr_run base (b :: t)
    have hw : wrap64 ((out.length : Int) - 1) = (out.length : Int) - 1 := w64 (by omega) (by omega)
    have hlen : ((b :: t).length : Int) ≥ 1 := by rw [List.length_cons]; omega
    refine Ev.step' ?_
    simp only [impl_deltaOf.l0, dGo, hw]
    refine Ev.posf (by omega) (Ev.bind (implRun_ev (by omega) (by omega)) ?_)
    by_cases c : (lr base (b :: t)).2 > 0
    · rw [if_pos c]
      refine Ev.posf c (Ev.posf (by omega) (Ev.posf r2 (Ev.posf r4 ?_)))
      exact implOf0_ev hb n _ _ (by simp at h1 ⊢; omega) (by omega) (by simp; omega) (fun x hx => by simp at hx; rcases hx with hx | rfl; (have := h4 x hx; omega); (simp; omega))
    · rw [if_neg c]
      refine Ev.negf c ?_
      have hd1 : List.drop 1 (b :: t) = t := rfl
      have hr0 : rdOf ByteArray.empty (b :: t) 0 = b := rfl
      simp only [hd1, hr0]
      by_cases g : 0 < out.length
      · refine Ev.posf (by omega) (Ev.posf (by omega) (Ev.posf (by omega) ?_))
        by_cases z : (rd_T39 out ((out.length : Int) - 1)).f1 = 0
        · rw [if_pos ⟨g, z⟩]
          have hm : rd_T39 out ((out.length : Int) - 1) ∈ out := by
            rw [show (out.length : Int) - 1 = ((out.length - 1 : Nat) : Int) by omega, rdD (by omega)]
            exact List.getElem_mem _
          have hf := h4 _ hm
          refine Ev.posf z (Ev.posf (by omega) (Ev.posf (by omega) (Ev.posf (by omega) ?_)))
          rw [show (((out.length : Int) - 1)).toNat = out.length - 1 by omega]
          exact implOf0_ev hb n _ _ (by simp at h1; omega) (by omega) (by simp; omega) (fun x hx => by
            rcases List.mem_or_eq_of_mem_set hx with hx | rfl
            · have := h4 x hx; omega
            · simp; omega)
        · rw [if_neg (fun h => z h.2)]
          refine Ev.negf z (Ev.posf (by omega) (Ev.posf (by omega) (Ev.posf (by omega) ?_)))
          exact implOf0_ev hb n _ _ (by simp at h1; omega) (by omega) (by simp; omega) (fun x hx => by simp at hx; rcases hx with hx | rfl; (have := h4 x hx; omega); (simp; omega))
      · rw [if_neg (fun h => g h.1)]
        refine Ev.negf (by omega) (Ev.posf (by omega) (Ev.posf (by omega) (Ev.posf (by omega) ?_)))
        exact implOf0_ev hb n _ _ (by simp at h1; omega) (by omega) (by simp; omega) (fun x hx => by simp at hx; rcases hx with hx | rfl; (have := h4 x hx; omega); (simp; omega))
theorem implOf_ev {base t : Tx} (hb : base.length ≤ 10000) (ht : t.length ≤ 10000) : Ev (fun k => impl_deltaOf.f k base t) (dOf base t) := by
  unfold impl_deltaOf.f
  exact implOf0_ev hb _ t [] (Nat.le_refl _) ht (by simp; omega) (by simp)
theorem specOf0_ev {base : Tx} (hb : base.length ≤ 10000) : ∀ (n : Nat) (t : Tx) (out : List Dl), t.length ≤ n → n ≤ 10000 → out.length + n ≤ 20000 → (∀ x ∈ out, x.f2.length + n ≤ 20000) → Ev (fun k => spec_l13Of.l0 k base t out) (dGo base n t out)
  | 0, t, out, h1, h2, h3, h4 => by
    have : t = [] := List.eq_nil_of_length_eq_zero (by omega)
    subst this
    refine Ev.step' ?_
    simp only [spec_l13Of.l0, dGo]
    exact Ev.negf (by simp) (Ev.now _)
  | n + 1, [], out, h1, h2, h3, h4 => by
    refine Ev.step' ?_
    simp only [spec_l13Of.l0, dGo]
    exact Ev.negf (by simp) (Ev.now _)
  | n + 1, b :: t, out, h1, h2, h3, h4 => by
    obtain ⟨r1, r2, r3, r4, r5⟩ := lr_run base (b :: t)
    have hw : wrap64 ((out.length : Int) - 1) = (out.length : Int) - 1 := w64 (by omega) (by omega)
    have hlen : ((b :: t).length : Int) ≥ 1 := by rw [List.length_cons]; omega
    refine Ev.step' ?_
    simp only [spec_l13Of.l0, dGo, hw]
    refine Ev.posf (by omega) (Ev.bind (specRun_ev (by omega) (by omega)) ?_)
    by_cases c : (lr base (b :: t)).2 > 0
    · rw [if_pos c]
      refine Ev.posf c (Ev.posf (by omega) (Ev.posf r2 (Ev.posf r4 ?_)))
      exact specOf0_ev hb n _ _ (by simp at h1 ⊢; omega) (by omega) (by simp; omega) (fun x hx => by simp at hx; rcases hx with hx | rfl; (have := h4 x hx; omega); (simp; omega))
    · rw [if_neg c]
      refine Ev.negf c ?_
      have hd1 : List.drop 1 (b :: t) = t := rfl
      have hr0 : rdOf ByteArray.empty (b :: t) 0 = b := rfl
      simp only [hd1, hr0]
      by_cases g : 0 < out.length
      · refine Ev.posf (by omega) (Ev.posf (by omega) (Ev.posf (by omega) ?_))
        by_cases z : (rd_T39 out ((out.length : Int) - 1)).f1 = 0
        · rw [if_pos ⟨g, z⟩]
          have hm : rd_T39 out ((out.length : Int) - 1) ∈ out := by
            rw [show (out.length : Int) - 1 = ((out.length - 1 : Nat) : Int) by omega, rdD (by omega)]
            exact List.getElem_mem _
          have hf := h4 _ hm
          refine Ev.posf z (Ev.posf (by omega) (Ev.posf (by omega) (Ev.posf (by omega) ?_)))
          rw [show (((out.length : Int) - 1)).toNat = out.length - 1 by omega]
          exact specOf0_ev hb n _ _ (by simp at h1; omega) (by omega) (by simp; omega) (fun x hx => by
            rcases List.mem_or_eq_of_mem_set hx with hx | rfl
            · have := h4 x hx; omega
            · simp; omega)
        · rw [if_neg (fun h => z h.2)]
          refine Ev.negf z (Ev.posf (by omega) (Ev.posf (by omega) (Ev.posf (by omega) ?_)))
          exact specOf0_ev hb n _ _ (by simp at h1; omega) (by omega) (by simp; omega) (fun x hx => by simp at hx; rcases hx with hx | rfl; (have := h4 x hx; omega); (simp; omega))
      · rw [if_neg (fun h => g h.1)]
        refine Ev.negf (by omega) (Ev.posf (by omega) (Ev.posf (by omega) (Ev.posf (by omega) ?_)))
        exact specOf0_ev hb n _ _ (by simp at h1; omega) (by omega) (by simp; omega) (fun x hx => by simp at hx; rcases hx with hx | rfl; (have := h4 x hx; omega); (simp; omega))
theorem specOf_ev {base t : Tx} (hb : base.length ≤ 10000) (ht : t.length ≤ 10000) : Ev (fun k => spec_l13Of.f k base t) (dOf base t) := by
  unfold spec_l13Of.f
  exact specOf0_ev hb _ t [] (Nat.le_refl _) ht (by simp; omega) (by simp)
end Go.Proofs.Ytfnhjaiioojbkaa.Q
end
section
namespace Go.Proofs.Ytfnhjaiioojbkaa.Q
open Go.RowKit Go.Proofs.YtfnhjaiioojbkaaW.PrintWords Go.Proofs.YtfnhjaiioojbkaaW.PrintLast Go.Proofs.YtfnhjaiioojbkaaW.PrintMore
attribute [local go_sem] max2_int min2_int max_two min_two max_three min_three max_four min_four   -- for this text's walks alone
set_option linter.unusedVariables false
set_option linter.unusedSimpArgs false
def spec_l1In.f (a0 : Int) (a1 : Int) (a2 : Int) : Option (Bool) := if a0 ≥ a1 then (some (decide (a0 ≤ a2))) else (some false)
set_option maxHeartbeats 8000000 in
set_option maxRecDepth 100000 in
theorem spec_l1In.calls (a0 : Int) (a1 : Int) (a2 : Int) (r : Bool) (w : World) (h : spec_l1In.f a0 a1 a2 = some r) :
 Calls Try.prog 87 #[.int .i64 a0, .int .i64 a1, .int .i64 a2] w fun e w' => e = .returned (.bool r) ∧ Drawn0 w w' := by
 have H : (if a0 ≥ a1 then (some (decide (a0 ≤ a2))) else (some false)) = some r := h
 clear h
 by_cases c4 : a0 ≥ a1
 · rw [if_pos c4] at H
   have c4b0 : decide (a1 ≤ a0) = true := decide_eq_true c4
   clear c4
   obtain rfl := Option.some.inj H
   go_enter Try.func87, Try.ntmps87
   go_wp2
   go_ret
   exact ⟨by first | rfl | (simp; done) | (simp [*]; done), by repeat (first | exact Drawn0.refl _ | apply Drawn0.step)⟩
 · rw [if_neg c4] at H
   have c4b0 : decide (a1 ≤ a0) = false := decide_eq_false c4
   clear c4
   obtain rfl := Option.some.inj H
   go_enter Try.func87, Try.ntmps87
   go_wp2
   go_ret
   exact ⟨by first | rfl | (simp; done) | (simp [*]; done), by repeat (first | exact Drawn0.refl _ | apply Drawn0.step)⟩
end Go.Proofs.Ytfnhjaiioojbkaa.Q
end
