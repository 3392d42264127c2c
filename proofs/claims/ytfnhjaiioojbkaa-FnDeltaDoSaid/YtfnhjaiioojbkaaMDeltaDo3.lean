/- A part of the proof of FnDeltaDo: functions of the program, the reference and the law, each with what its call comes to. Conditions: those that each theorem names. -/
import Derived.Test.YtfnhjaiioojbkaaMDeltaDo0
import Derived.Test.YtfnhjaiioojbkaaMDeltaDo1
import Derived.Test.YtfnhjaiioojbkaaMDeltaDo2
set_option linter.unusedVariables false
set_option linter.unusedSimpArgs false
section
namespace Go.Proofs.Ytfnhjaiioojbkaa.Q
open Go.RowKit Go.Proofs.YtfnhjaiioojbkaaW.PrintWords Go.Proofs.YtfnhjaiioojbkaaW.PrintLast Go.Proofs.YtfnhjaiioojbkaaW.PrintMore
attribute [local go_sem] max2_int min2_int max_two min_two max_three min_three max_four min_four   -- for this text's walks alone
set_option linter.unusedVariables false
set_option linter.unusedSimpArgs false
def spec_DeltaOf.f (k : Nat) (l0 : List ByteArray) (l1 : List ByteArray) : Option ((List (S39))) := (spec_l1Ok.f k l0).bind fun t437 => (if t437 = true then ((spec_l1Ok.f k l1).bind fun t438 => (if t438 = true then ((spec_l13Of.f k l0 l1).bind fun t439 => (some t439)) else (some ([] : List (S39))))) else (some ([] : List (S39))))
theorem spec_DeltaOf.mono : ∀ a0 a1 k, LeO (spec_DeltaOf.f k a0 a1) (spec_DeltaOf.f (k + 1) a0 a1) := by
 intro a0 a1 k
 unfold spec_DeltaOf.f
 repeat' first
  | (with_reducible exact spec_l13Of.mono _ _ _)
  | (with_reducible exact spec_l1Ok.mono _ _)
  | (with_reducible exact LeO.refl _)
  | (with_reducible exact LeO.none _)
  | (with_reducible refine LeO.ite ?_ ?_)
  | (with_reducible refine LeO.bind ?_ (fun _ => ?_))
  | exact spec_l13Of.mono _ _ _
  | exact spec_l1Ok.mono _ _
  | exact LeO.none _
  | refine LeO.ite ?_ ?_
  | refine LeO.bind ?_ (fun _ => ?_)
set_option maxHeartbeats 8000000 in
set_option maxRecDepth 100000 in
theorem spec_DeltaOf.calls (k : Nat) (A0 : Option Addr) (c0 : Nat) (l0 : List ByteArray) (A1 : Option Addr) (c1 : Nat) (l1 : List ByteArray) (r : List (S39)) (w : World) (hr0 : Kd.C Kd.string w A0 l0.length l0) (hc0 : l0.length ≤ c0) (hr1 : Kd.C Kd.string w A1 l1.length l1) (hc1 : l1.length ≤ c1) (h : spec_DeltaOf.f k l0 l1 = some r) :
 Calls Try.prog 23 #[.slice A0 l0.length c0, .slice A1 l1.length c1] w fun e w' => ∃ v0_ : Value, e = .returned (v0_) ∧ Kd.S k39 39 w' w.heap.size (fun _ => True) v0_ r ∧ Below w.heap.size w w' := by
 have HR0 := Aside0.mk hr0
 have HC0 := Aside0.mk hc0
 clear hr0 hc0
 have HR1 := Aside0.mk hr1
 have HC1 := Aside0.mk hc1
 clear hr1 hc1
 have HB := Aside0.mk (Below.refl w.heap.size w)
 have H : ((spec_l1Ok.f k l0).bind fun t437 => (if t437 = true then ((spec_l1Ok.f k l1).bind fun t438 => (if t438 = true then ((spec_l13Of.f k l0 l1).bind fun t439 => (some t439)) else (some ([] : List (S39))))) else (some ([] : List (S39))))) = some r := h
 clear h
 replace H := Option.bind_eq_some_iff.mp H
 obtain ⟨t437, A30, H⟩ := H
 replace H : (if t437 = true then ((spec_l1Ok.f k l1).bind fun t438 => (if t438 = true then ((spec_l13Of.f k l0 l1).bind fun t439 => (some t439)) else (some ([] : List (S39))))) else (some ([] : List (S39)))) = some r := H
 have A3 := Aside0.mk A30
 clear A30
 by_cases c4 : t437 = true
 · subst c4
   have H1 : ((spec_l1Ok.f k l1).bind fun t438 => (if t438 = true then ((spec_l13Of.f k l0 l1).bind fun t439 => (some t439)) else (some ([] : List (S39))))) = some r := by rw [if_pos rfl] at H; exact H
   clear H
   have H := H1
   clear H1
   replace H := Option.bind_eq_some_iff.mp H
   obtain ⟨t438, A50, H⟩ := H
   replace H : (if t438 = true then ((spec_l13Of.f k l0 l1).bind fun t439 => (some t439)) else (some ([] : List (S39)))) = some r := H
   have A5 := Aside0.mk A50
   clear A50
   by_cases c6 : t438 = true
   · subst c6
     have H1 : ((spec_l13Of.f k l0 l1).bind fun t439 => (some t439)) = some r := by rw [if_pos rfl] at H; exact H
     clear H
     have H := H1
     clear H1
     replace H := Option.bind_eq_some_iff.mp H
     obtain ⟨t439, A70, H⟩ := H
     replace H : (some t439) = some r := H
     have A7 := Aside0.mk A70
     clear A70
     obtain rfl := Option.some.inj H
     go_enter Try.func23, Try.ntmps23
     go_wp2_with (first | ((with_reducible refine gate_callee (f := 71) rfl ?_); refine goesL_ (some 6) rfl rfl Try.func71 (by kernel_rfl) rfl #[.slice A0 l0.length c0] rfl (by (try simp only [List.map_toArray, List.map_cons, List.map_nil]); first | done | rfl | (simp only [List.length_drop, List.length_take]; rfl)) ?_; (with_reducible refine (spec_l1Ok.calls k _ _ l0 true _ ?side1 ?side2 A3.out).mono ?_); (case side1 => repeat (first | exact HR0.out | (with_reducible refine Kd.C_alloc ?_ _) | (with_reducible refine Kd.C_drewN ?_ _) | (with_reducible refine Kd.C_drew ?_))); (case side2 => exact HC0.out); rintro e w' ⟨rfl, ⟨nd, rfl⟩⟩; refine ⟨_, rfl, ?_⟩) | (go_at_call 71; (with_reducible refine (spec_l1Ok.calls k _ _ l1 true _ ?side1 ?side2 A5.out).mono ?_); (case side1 => repeat (first | exact HR1.out | (with_reducible refine Kd.C_alloc ?_ _) | (with_reducible refine Kd.C_drewN ?_ _) | (with_reducible refine Kd.C_drew ?_))); (case side2 => exact HC1.out); rintro e w' ⟨rfl, ⟨nd, rfl⟩⟩) | ((with_reducible refine gate_callee (f := 72) rfl ?_); refine goesL_ (some 15) rfl rfl Try.func72 (by kernel_rfl) rfl #[.slice A0 l0.length c0, .slice A1 l1.length c1] rfl (by (try simp only [List.map_toArray, List.map_cons, List.map_nil]); first | done | rfl | (simp only [List.length_drop, List.length_take]; rfl)) ?_; (with_reducible refine (spec_l13Of.calls k _ _ l0 (fun k_ => k_ < w.heap.size) _ _ l1 t439 _ ?side1 ?side2 ?side3 A7.out).mono ?_); (case side1 => repeat (first | exact HR0.out | (with_reducible refine Kd.C_alloc ?_ _) | (with_reducible refine Kd.C_drewN ?_ _) | (with_reducible refine Kd.C_drew ?_))); (case side2 => exact HC0.out); (case side3 => exact Kd.V_mk HC1.out (Kd.F_below (Kd.C_F Kd.heap_string HR1.out) (by repeat (first | (with_reducible first | exact HB.out | apply below_alloc | apply pw_below_drewN | apply below_drew1) | exact HB.out)))); rintro e w8 ⟨v440, rfl, ho0, hb⟩; refine ⟨_, rfl, ?_⟩; have n0_ := Aside0.mk (Kd.S_lower (Kd.S_mono (ok' := fun k_ => True) ho0 (fun _ hk_ => trivial)) (below_size (by repeat (first | (with_reducible first | exact HB.out | apply below_alloc | apply pw_below_drewN | apply below_drew1) | exact HB.out)))); have n1_ := Aside0.mk (below_step (by repeat (first | (with_reducible first | exact HB.out | apply below_alloc | apply pw_below_drewN | apply below_drew1) | exact HB.out)) hb); clear HB; have HO441 := n0_; have HB := n1_; clear n0_ n1_; (try clear hb); (try clear hb2); (try clear hk); (try clear hi); (try clear ho0)))
     go_ret
     exact ⟨_, by first | rfl | (simp [errW_none, errW_some] <;> rfl) | (simp [*, errW_none, errW_some] <;> rfl), by (with_reducible repeat (first | apply Kd.S_alloc | apply Kd.S_drewN | apply Kd.S_drew)); exact HO441.out, by repeat (first | (with_reducible first | exact HB.out | apply below_alloc | apply pw_below_drewN | apply below_drew1) | exact HB.out)⟩
   · replace c6 := Bool.eq_false_iff.mpr c6
     subst c6
     have H1 : (some ([] : List (S39))) = some r := by rw [if_neg (show ¬ (false = true) by decide)] at H; exact H
     clear H
     have H := H1
     clear H1
     obtain rfl := Option.some.inj H
     go_enter Try.func23, Try.ntmps23
     go_wp2_with (first | ((with_reducible refine gate_callee (f := 71) rfl ?_); refine goesL_ (some 6) rfl rfl Try.func71 (by kernel_rfl) rfl #[.slice A0 l0.length c0] rfl (by (try simp only [List.map_toArray, List.map_cons, List.map_nil]); first | done | rfl | (simp only [List.length_drop, List.length_take]; rfl)) ?_; (with_reducible refine (spec_l1Ok.calls k _ _ l0 true _ ?side1 ?side2 A3.out).mono ?_); (case side1 => repeat (first | exact HR0.out | (with_reducible refine Kd.C_alloc ?_ _) | (with_reducible refine Kd.C_drewN ?_ _) | (with_reducible refine Kd.C_drew ?_))); (case side2 => exact HC0.out); rintro e w' ⟨rfl, ⟨nd, rfl⟩⟩; refine ⟨_, rfl, ?_⟩) | (go_at_call 71; (with_reducible refine (spec_l1Ok.calls k _ _ l1 false _ ?side1 ?side2 A5.out).mono ?_); (case side1 => repeat (first | exact HR1.out | (with_reducible refine Kd.C_alloc ?_ _) | (with_reducible refine Kd.C_drewN ?_ _) | (with_reducible refine Kd.C_drew ?_))); (case side2 => exact HC1.out); rintro e w' ⟨rfl, ⟨nd, rfl⟩⟩))
     go_ret
     exact ⟨_, by first | rfl | (simp [errW_none, errW_some] <;> rfl) | (simp [*, errW_none, errW_some] <;> rfl), by first | exact Kd.S_nil _ _ _ _ _ | exact Kd.N_nil _ _ _ _ _ | exact Kd.V_nil _ _ _ _ _ | exact Kd.Q_nil _ _ _ _ _ | exact Kd.R_nil _ _ _ _ _, by repeat (first | (with_reducible first | exact HB.out | apply below_alloc | apply pw_below_drewN | apply below_drew1) | exact HB.out)⟩
 · replace c4 := Bool.eq_false_iff.mpr c4
   subst c4
   have H1 : (some ([] : List (S39))) = some r := by rw [if_neg (show ¬ (false = true) by decide)] at H; exact H
   clear H
   have H := H1
   clear H1
   obtain rfl := Option.some.inj H
   go_enter Try.func23, Try.ntmps23
   go_wp2_with (first | ((with_reducible refine gate_callee (f := 71) rfl ?_); refine goesL_ (some 6) rfl rfl Try.func71 (by kernel_rfl) rfl #[.slice A0 l0.length c0] rfl (by (try simp only [List.map_toArray, List.map_cons, List.map_nil]); first | done | rfl | (simp only [List.length_drop, List.length_take]; rfl)) ?_; (with_reducible refine (spec_l1Ok.calls k _ _ l0 false _ ?side1 ?side2 A3.out).mono ?_); (case side1 => repeat (first | exact HR0.out | (with_reducible refine Kd.C_alloc ?_ _) | (with_reducible refine Kd.C_drewN ?_ _) | (with_reducible refine Kd.C_drew ?_))); (case side2 => exact HC0.out); rintro e w' ⟨rfl, ⟨nd, rfl⟩⟩; refine ⟨_, rfl, ?_⟩))
   go_ret
   exact ⟨_, by first | rfl | (simp [errW_none, errW_some] <;> rfl) | (simp [*, errW_none, errW_some] <;> rfl), by first | exact Kd.S_nil _ _ _ _ _ | exact Kd.N_nil _ _ _ _ _ | exact Kd.V_nil _ _ _ _ _ | exact Kd.Q_nil _ _ _ _ _ | exact Kd.R_nil _ _ _ _ _, by repeat (first | (with_reducible first | exact HB.out | apply below_alloc | apply pw_below_drewN | apply below_drew1) | exact HB.out)⟩
end Go.Proofs.Ytfnhjaiioojbkaa.Q
end
section
namespace Go.Proofs.Ytfnhjaiioojbkaa.Q
open Go.RowKit Go.Proofs.YtfnhjaiioojbkaaW.PrintWords Go.Proofs.YtfnhjaiioojbkaaW.PrintLast Go.Proofs.YtfnhjaiioojbkaaW.PrintMore
attribute [local go_sem] max2_int min2_int max_two min_two max_three min_three max_four min_four   -- for this text's walks alone
set_option linter.unusedVariables false
set_option linter.unusedSimpArgs false
def spec_l30Delta.f (k : Nat) (s0_0 : List Int) (s0_1 : Int) (l1 : List ByteArray) : Option ((List (S39)) × Int) := (spec_l30Turn.f k s0_0 s0_1 l1).bind fun bt536 => ((spec_DeltaOf.f k l1 bt536.1).bind fun t540 => (if (t540.length : Int) > 0 then ((spec_l30Rd_pick.f k s0_0 bt536.2 (t540.length : Int)).bind fun bt543 => ((spec_l30Rd_pick.f k s0_0 bt543.2 14).bind fun bt545 => (if bt545.1 = 0 then ((spec_l30Rd_one.f k s0_0 bt545.2 (([(-1), 9, 0] : List Int))).bind fun bt550 => (if 0 ≤ bt543.1 then (if bt543.1 < (t540.length : Int) then (some ((t540.set (bt543.1 : Int).toNat (⟨(rd_T39 t540 bt543.1).f0, bt550.1, (rd_T39 t540 bt543.1).f2⟩ : S39)), bt550.2)) else (none)) else (none))) else (if bt545.1 = 1 then ((spec_l30Rd_one.f k s0_0 bt545.2 (([(-1), 10, 1] : List Int))).bind fun bt556 => (if 0 ≤ bt543.1 then (if bt543.1 < (t540.length : Int) then (some ((t540.set (bt543.1 : Int).toNat (⟨bt556.1, (rd_T39 t540 bt543.1).f1, (rd_T39 t540 bt543.1).f2⟩ : S39)), bt556.2)) else (none)) else (none))) else (if bt545.1 = 2 then ((some (([] : List ByteArray) : List ByteArray)).bind fun y559 => (if 0 ≤ bt543.1 then (if bt543.1 < (t540.length : Int) then (if y559.length + ((rd_T39 t540 bt543.1).f2).length < 8796093022208 then ((some (y559 ++ ((rd_T39 t540 bt543.1).f2) : List ByteArray)).bind fun y563 => (if y563.length < 8796093022208 then (some ((t540.set (bt543.1 : Int).toNat (⟨(rd_T39 t540 bt543.1).f0, (rd_T39 t540 bt543.1).f1, (y563 ++ [(⟨#[122]⟩ : ByteArray)])⟩ : S39)), bt545.2)) else (none))) else (none)) else (none)) else (none))) else (some (t540, bt545.2))))))) else (some (t540, bt536.2))))
theorem spec_l30Delta.mono : ∀ a0 a1 a2 k, LeO (spec_l30Delta.f k a0 a1 a2) (spec_l30Delta.f (k + 1) a0 a1 a2) := by
 intro a0 a1 a2 k
 unfold spec_l30Delta.f
 repeat' first
  | (with_reducible exact spec_DeltaOf.mono _ _ _)
  | (with_reducible exact spec_l30Rd_one.mono _ _ _ _)
  | (with_reducible exact spec_l30Rd_pick.mono _ _ _ _)
  | (with_reducible exact spec_l30Turn.mono _ _ _ _)
  | (with_reducible exact LeO.refl _)
  | (with_reducible exact LeO.none _)
  | (with_reducible refine LeO.ite ?_ ?_)
  | (with_reducible refine LeO.bind ?_ (fun _ => ?_))
  | exact spec_DeltaOf.mono _ _ _
  | exact spec_l30Rd_one.mono _ _ _ _
  | exact spec_l30Rd_pick.mono _ _ _ _
  | exact spec_l30Turn.mono _ _ _ _
  | exact LeO.none _
  | refine LeO.ite ?_ ?_
  | refine LeO.bind ?_ (fun _ => ?_)
set_option maxHeartbeats 8000000 in
set_option maxRecDepth 100000 in
theorem spec_l30Delta.calls (k : Nat) (g : Nat) (s0_0 : List Int) (s0_1 : Int) (A1 : Option Addr) (c1 : Nat) (l1 : List ByteArray) (r1 : List (S39)) (r2 : Int) (w0 w : World) (hI : IsS106 w0 w g s0_0 s0_1) (hB : Below w0.heap.size w0 w) (hr1 : Kd.C Kd.string w A1 l1.length l1) (hc1 : l1.length ≤ c1) (hf1 : ∀ ad, A1 = some ad → 0 < l1.length → ad.block ≠ g) (h : spec_l30Delta.f k s0_0 s0_1 l1 = some (r1, r2)) :
 Calls Try.prog 80 #[.pointer (some ⟨g, 0, none⟩), .slice A1 l1.length c1] w fun e w' => ∃ v0_ : Value, e = .returned (v0_) ∧ Kd.S k39 39 w' w.heap.size (fun _ => True) v0_ r1 ∧ IsS106 w0 w' g s0_0 r2 ∧ Below w0.heap.size w0 w' ∧ KeepBut w w' g none := by
 have HR1 := Aside0.mk hr1
 have HC1 := Aside0.mk hc1
 clear hr1 hc1
 have HI0 := Aside0.mk hI
 have HK := Aside0.mk (KeepBut.refl w g none)
 have HL := Aside0.mk hB.size
 clear hI
 have HW0 := Aside0.mk hB.size
 have HB := Aside0.mk hB
 clear hB
 have H : ((spec_l30Turn.f k s0_0 s0_1 l1).bind fun bt536 => ((spec_DeltaOf.f k l1 bt536.1).bind fun t540 => (if (t540.length : Int) > 0 then ((spec_l30Rd_pick.f k s0_0 bt536.2 (t540.length : Int)).bind fun bt543 => ((spec_l30Rd_pick.f k s0_0 bt543.2 14).bind fun bt545 => (if bt545.1 = 0 then ((spec_l30Rd_one.f k s0_0 bt545.2 (([(-1), 9, 0] : List Int))).bind fun bt550 => (if 0 ≤ bt543.1 then (if bt543.1 < (t540.length : Int) then (some ((t540.set (bt543.1 : Int).toNat (⟨(rd_T39 t540 bt543.1).f0, bt550.1, (rd_T39 t540 bt543.1).f2⟩ : S39)), bt550.2)) else (none)) else (none))) else (if bt545.1 = 1 then ((spec_l30Rd_one.f k s0_0 bt545.2 (([(-1), 10, 1] : List Int))).bind fun bt556 => (if 0 ≤ bt543.1 then (if bt543.1 < (t540.length : Int) then (some ((t540.set (bt543.1 : Int).toNat (⟨bt556.1, (rd_T39 t540 bt543.1).f1, (rd_T39 t540 bt543.1).f2⟩ : S39)), bt556.2)) else (none)) else (none))) else (if bt545.1 = 2 then ((some (([] : List ByteArray) : List ByteArray)).bind fun y559 => (if 0 ≤ bt543.1 then (if bt543.1 < (t540.length : Int) then (if y559.length + ((rd_T39 t540 bt543.1).f2).length < 8796093022208 then ((some (y559 ++ ((rd_T39 t540 bt543.1).f2) : List ByteArray)).bind fun y563 => (if y563.length < 8796093022208 then (some ((t540.set (bt543.1 : Int).toNat (⟨(rd_T39 t540 bt543.1).f0, (rd_T39 t540 bt543.1).f1, (y563 ++ [(⟨#[122]⟩ : ByteArray)])⟩ : S39)), bt545.2)) else (none))) else (none)) else (none)) else (none))) else (some (t540, bt545.2))))))) else (some (t540, bt536.2))))) = some (r1, r2) := h
 clear h
 replace H := Option.bind_eq_some_iff.mp H
 obtain ⟨⟨t536, t539⟩, A30, H⟩ := H
 replace H : ((spec_DeltaOf.f k l1 t536).bind fun t540 => (if (t540.length : Int) > 0 then ((spec_l30Rd_pick.f k s0_0 t539 (t540.length : Int)).bind fun bt543 => ((spec_l30Rd_pick.f k s0_0 bt543.2 14).bind fun bt545 => (if bt545.1 = 0 then ((spec_l30Rd_one.f k s0_0 bt545.2 (([(-1), 9, 0] : List Int))).bind fun bt550 => (if 0 ≤ bt543.1 then (if bt543.1 < (t540.length : Int) then (some ((t540.set (bt543.1 : Int).toNat (⟨(rd_T39 t540 bt543.1).f0, bt550.1, (rd_T39 t540 bt543.1).f2⟩ : S39)), bt550.2)) else (none)) else (none))) else (if bt545.1 = 1 then ((spec_l30Rd_one.f k s0_0 bt545.2 (([(-1), 10, 1] : List Int))).bind fun bt556 => (if 0 ≤ bt543.1 then (if bt543.1 < (t540.length : Int) then (some ((t540.set (bt543.1 : Int).toNat (⟨bt556.1, (rd_T39 t540 bt543.1).f1, (rd_T39 t540 bt543.1).f2⟩ : S39)), bt556.2)) else (none)) else (none))) else (if bt545.1 = 2 then ((some (([] : List ByteArray) : List ByteArray)).bind fun y559 => (if 0 ≤ bt543.1 then (if bt543.1 < (t540.length : Int) then (if y559.length + ((rd_T39 t540 bt543.1).f2).length < 8796093022208 then ((some (y559 ++ ((rd_T39 t540 bt543.1).f2) : List ByteArray)).bind fun y563 => (if y563.length < 8796093022208 then (some ((t540.set (bt543.1 : Int).toNat (⟨(rd_T39 t540 bt543.1).f0, (rd_T39 t540 bt543.1).f1, (y563 ++ [(⟨#[122]⟩ : ByteArray)])⟩ : S39)), bt545.2)) else (none))) else (none)) else (none)) else (none))) else (some (t540, bt545.2))))))) else (some (t540, t539)))) = some (r1, r2) := H
 have A3 := Aside0.mk A30
 clear A30
 replace H := Option.bind_eq_some_iff.mp H
 obtain ⟨t540, A40, H⟩ := H
 replace H : (if (t540.length : Int) > 0 then ((spec_l30Rd_pick.f k s0_0 t539 (t540.length : Int)).bind fun bt543 => ((spec_l30Rd_pick.f k s0_0 bt543.2 14).bind fun bt545 => (if bt545.1 = 0 then ((spec_l30Rd_one.f k s0_0 bt545.2 (([(-1), 9, 0] : List Int))).bind fun bt550 => (if 0 ≤ bt543.1 then (if bt543.1 < (t540.length : Int) then (some ((t540.set (bt543.1 : Int).toNat (⟨(rd_T39 t540 bt543.1).f0, bt550.1, (rd_T39 t540 bt543.1).f2⟩ : S39)), bt550.2)) else (none)) else (none))) else (if bt545.1 = 1 then ((spec_l30Rd_one.f k s0_0 bt545.2 (([(-1), 10, 1] : List Int))).bind fun bt556 => (if 0 ≤ bt543.1 then (if bt543.1 < (t540.length : Int) then (some ((t540.set (bt543.1 : Int).toNat (⟨bt556.1, (rd_T39 t540 bt543.1).f1, (rd_T39 t540 bt543.1).f2⟩ : S39)), bt556.2)) else (none)) else (none))) else (if bt545.1 = 2 then ((some (([] : List ByteArray) : List ByteArray)).bind fun y559 => (if 0 ≤ bt543.1 then (if bt543.1 < (t540.length : Int) then (if y559.length + ((rd_T39 t540 bt543.1).f2).length < 8796093022208 then ((some (y559 ++ ((rd_T39 t540 bt543.1).f2) : List ByteArray)).bind fun y563 => (if y563.length < 8796093022208 then (some ((t540.set (bt543.1 : Int).toNat (⟨(rd_T39 t540 bt543.1).f0, (rd_T39 t540 bt543.1).f1, (y563 ++ [(⟨#[122]⟩ : ByteArray)])⟩ : S39)), bt545.2)) else (none))) else (none)) else (none)) else (none))) else (some (t540, bt545.2))))))) else (some (t540, t539))) = some (r1, r2) := H
 have A4 := Aside0.mk A40
 clear A40
 by_cases c5 : (t540.length : Int) > 0
 · rw [if_pos c5] at H
   have c5b0 : decide (0 < (t540.length : Int)) = true := decide_eq_true c5
   have c5b1 : decide (0 < t540.length) = true := decide_eq_true (by omega)
   clear c5
   replace H := Option.bind_eq_some_iff.mp H
   obtain ⟨⟨t543, t544⟩, A60, H⟩ := H
   replace H : ((spec_l30Rd_pick.f k s0_0 t544 14).bind fun bt545 => (if bt545.1 = 0 then ((spec_l30Rd_one.f k s0_0 bt545.2 (([(-1), 9, 0] : List Int))).bind fun bt550 => (if 0 ≤ t543 then (if t543 < (t540.length : Int) then (some ((t540.set (t543 : Int).toNat (⟨(rd_T39 t540 t543).f0, bt550.1, (rd_T39 t540 t543).f2⟩ : S39)), bt550.2)) else (none)) else (none))) else (if bt545.1 = 1 then ((spec_l30Rd_one.f k s0_0 bt545.2 (([(-1), 10, 1] : List Int))).bind fun bt556 => (if 0 ≤ t543 then (if t543 < (t540.length : Int) then (some ((t540.set (t543 : Int).toNat (⟨bt556.1, (rd_T39 t540 t543).f1, (rd_T39 t540 t543).f2⟩ : S39)), bt556.2)) else (none)) else (none))) else (if bt545.1 = 2 then ((some (([] : List ByteArray) : List ByteArray)).bind fun y559 => (if 0 ≤ t543 then (if t543 < (t540.length : Int) then (if y559.length + ((rd_T39 t540 t543).f2).length < 8796093022208 then ((some (y559 ++ ((rd_T39 t540 t543).f2) : List ByteArray)).bind fun y563 => (if y563.length < 8796093022208 then (some ((t540.set (t543 : Int).toNat (⟨(rd_T39 t540 t543).f0, (rd_T39 t540 t543).f1, (y563 ++ [(⟨#[122]⟩ : ByteArray)])⟩ : S39)), bt545.2)) else (none))) else (none)) else (none)) else (none))) else (some (t540, bt545.2)))))) = some (r1, r2) := H
   have A6 := Aside0.mk A60
   clear A60
   replace H := Option.bind_eq_some_iff.mp H
   obtain ⟨⟨t545, t546⟩, A70, H⟩ := H
   replace H : (if t545 = 0 then ((spec_l30Rd_one.f k s0_0 t546 (([(-1), 9, 0] : List Int))).bind fun bt550 => (if 0 ≤ t543 then (if t543 < (t540.length : Int) then (some ((t540.set (t543 : Int).toNat (⟨(rd_T39 t540 t543).f0, bt550.1, (rd_T39 t540 t543).f2⟩ : S39)), bt550.2)) else (none)) else (none))) else (if t545 = 1 then ((spec_l30Rd_one.f k s0_0 t546 (([(-1), 10, 1] : List Int))).bind fun bt556 => (if 0 ≤ t543 then (if t543 < (t540.length : Int) then (some ((t540.set (t543 : Int).toNat (⟨bt556.1, (rd_T39 t540 t543).f1, (rd_T39 t540 t543).f2⟩ : S39)), bt556.2)) else (none)) else (none))) else (if t545 = 2 then ((some (([] : List ByteArray) : List ByteArray)).bind fun y559 => (if 0 ≤ t543 then (if t543 < (t540.length : Int) then (if y559.length + ((rd_T39 t540 t543).f2).length < 8796093022208 then ((some (y559 ++ ((rd_T39 t540 t543).f2) : List ByteArray)).bind fun y563 => (if y563.length < 8796093022208 then (some ((t540.set (t543 : Int).toNat (⟨(rd_T39 t540 t543).f0, (rd_T39 t540 t543).f1, (y563 ++ [(⟨#[122]⟩ : ByteArray)])⟩ : S39)), t546)) else (none))) else (none)) else (none)) else (none))) else (some (t540, t546))))) = some (r1, r2) := H
   have A7 := Aside0.mk A70
   clear A70
   by_cases c8 : t545 = 0
   · rw [if_pos c8] at H
     have c8b0 : (t545 == 0) = true := beq_iff_eq.mpr c8
     have c8b1 : (t545 != 0) = false := bne_eq_false_iff_eq.mpr c8
     clear c8
     obtain ⟨y547, hy547⟩ : ∃ y_ : List Int, y_ = (([(-1), 9, 0] : List Int)) := ⟨_, rfl⟩
     replace H : ((spec_l30Rd_one.f k s0_0 t546 y547).bind fun bt550 => (if 0 ≤ t543 then (if t543 < (t540.length : Int) then (some ((t540.set (t543 : Int).toNat (⟨(rd_T39 t540 t543).f0, bt550.1, (rd_T39 t540 t543).f2⟩ : S39)), bt550.2)) else (none)) else (none))) = some (r1, r2) := by first | (rw [hy547]; with_reducible exact H) | (have H2_ := (Option.bind_some _ _).symm.trans H; rw [hy547]; with_reducible exact H2_) | (have H2_ := (Option.bind_some _ _).symm.trans H; with_reducible exact H2_) | with_reducible exact H | (rw [hy547]; exact H) | exact H
     have Ny547 := Aside0.mk hy547
     clear hy547
     replace H := Option.bind_eq_some_iff.mp H
     obtain ⟨⟨t550, t551⟩, A90, H⟩ := H
     replace H : (if 0 ≤ t543 then (if t543 < (t540.length : Int) then (some ((t540.set (t543 : Int).toNat (⟨(rd_T39 t540 t543).f0, t550, (rd_T39 t540 t543).f2⟩ : S39)), t551)) else (none)) else (none)) = some (r1, r2) := H
     have A9 := Aside0.mk A90
     clear A90
     by_cases c10 : 0 ≤ t543
     · rw [if_pos c10] at H
       have c10b0 : decide (0 ≤ t543) = true := decide_eq_true c10
       clear c10
       by_cases c11 : t543 < (t540.length : Int)
       · rw [if_pos c11] at H
         have c11b0 : decide (t543 < (t540.length : Int)) = true := decide_eq_true c11
         clear c11
         obtain ⟨y552, hy552⟩ : ∃ y_ : List (S39), y_ = (t540.set (t543 : Int).toNat (⟨(rd_T39 t540 t543).f0, t550, (rd_T39 t540 t543).f2⟩ : S39)) := ⟨_, rfl⟩
         replace H : (some (y552, t551)) = some (r1, r2) := by first | (rw [hy552]; with_reducible exact H) | (have H2_ := (Option.bind_some _ _).symm.trans H; rw [hy552]; with_reducible exact H2_) | (have H2_ := (Option.bind_some _ _).symm.trans H; with_reducible exact H2_) | with_reducible exact H | (rw [hy552]; exact H) | exact H
         have Ny552 := Aside0.mk hy552
         clear hy552
         simp only [Option.some.injEq, Prod.mk.injEq] at H
         obtain ⟨rfl, rfl⟩ := H
         go_enter Try.func80, Try.ntmps80
         go_wp2_with (first | ((with_reducible refine gate_callee (f := 82) rfl ?_); refine goesL_ (some 10) rfl rfl Try.func82 (by kernel_rfl) rfl #[.pointer (some ⟨g, 0, none⟩), .slice A1 l1.length c1] rfl (by (try simp only [List.map_toArray, List.map_cons, List.map_nil]); first | done | rfl | (simp only [List.length_drop, List.length_take]; rfl)) ?_; (with_reducible refine (spec_l30Turn.calls k g s0_0 s0_1 _ _ l1 t536 t539 w0 _ ?side1 ?side2 ?side3 ?side4 ?side5 A3.out).mono ?_); (case side1 => repeat (first | (with_reducible first | exact HI0.out | apply IsS106.alloc | apply IsS106.drewN | apply IsS106.drew | apply IsS106.set_1) | exact HI0.out)); (case side2 => repeat (first | (with_reducible first | exact HB.out | apply below_alloc | apply pw_below_drewN | apply below_drew1 | refine below_set ?_ (IsS106.ge HI0.out)) | exact HB.out)); (case side3 => exact Kd.C_keep (⟨#[]⟩ : ByteArray) HR1.out (by repeat (first | (with_reducible first | exact HK.out | apply KeepBut.set_ | apply keep_drewN | apply keep_drew | apply keep_alloc) | exact HK.out)) hf1); (case side4 => exact HC1.out); (case side5 => exact hf1); rintro e w13 ⟨v537, rfl, ho0, hi, hb, hk⟩; refine ⟨_, rfl, ?_⟩; have n0_ := Aside0.mk (Kd.R_lower ho0 (keep_size (w := w) (g := g) (row := none) (by repeat (first | (with_reducible first | exact HK.out | apply KeepBut.set_ | apply keep_drewN | apply keep_drew | apply keep_alloc) | exact HK.out)))); have n1_ := Aside0.mk (KeepBut.trans (by repeat (first | (with_reducible first | exact HK.out | apply KeepBut.set_ | apply keep_drewN | apply keep_drew | apply keep_alloc) | exact HK.out)) hk (.inl rfl)); have n2_ := Aside0.mk (hb); have n3_ := Aside0.mk (hi); clear HK; clear HB; clear HI0; have HO538 := n0_; have HK := n1_; have HB := n2_; have HI0 := n3_; clear n0_ n1_ n2_ n3_; (try clear hb); (try clear hb2); (try clear hk); (try clear hi); (try clear ho0); obtain ⟨Ao14, co14, eo14⟩ := Kd.R_slice HO538.out; subst eo14) | ((with_reducible refine gate_callee (f := 23) rfl ?_); refine goesL_ (some 11) rfl rfl Try.func23 (by kernel_rfl) rfl #[.slice A1 l1.length c1, .slice Ao14 t536.length co14] rfl (by (try simp only [List.map_toArray, List.map_cons, List.map_nil]); first | done | rfl | (simp only [List.length_drop, List.length_take]; rfl)) ?_; (with_reducible refine (spec_DeltaOf.calls k _ _ l1 _ _ t536 t540 _ ?side1 ?side2 ?side3 ?side4 A4.out).mono ?_); (case side1 => exact Kd.C_keep (⟨#[]⟩ : ByteArray) HR1.out (by repeat (first | (with_reducible first | exact HK.out | apply KeepBut.set_ | apply keep_drewN | apply keep_drew | apply keep_alloc) | exact HK.out)) hf1); (case side2 => exact HC1.out); (case side3 => repeat (first | exact (Kd.R_reads' HO538.out).2.2 | (with_reducible refine Kd.C_alloc ?_ _) | (with_reducible refine Kd.C_drewN ?_ _) | (with_reducible refine Kd.C_drew ?_))); (case side4 => exact (Kd.R_reads' HO538.out).2.1); rintro e w15 ⟨v541, rfl, ho0, hb⟩; refine ⟨_, rfl, ?_⟩; have n0_ := Aside0.mk (Kd.R_below (by (with_reducible repeat (first | apply Kd.R_alloc | apply Kd.R_drewN | apply Kd.R_drew)); exact HO538.out) hb); have n1_ := Aside0.mk (Kd.S_lower (Kd.S_new' ho0 (Kd.R_lt (by (with_reducible repeat (first | apply Kd.R_alloc | apply Kd.R_drewN | apply Kd.R_drew)); exact HO538.out))) (keep_size (w := w) (g := g) (row := none) (by repeat (first | (with_reducible first | exact HK.out | apply KeepBut.set_ | apply keep_drewN | apply keep_drew | apply keep_alloc) | exact HK.out)))); have n2_ := Aside0.mk (IsS106.below (by repeat (first | (with_reducible first | exact HI0.out | apply IsS106.alloc | apply IsS106.drewN | apply IsS106.drew | apply IsS106.set_1) | exact HI0.out)) hb); have n3_ := Aside0.mk (KeepBut.trans (by repeat (first | (with_reducible first | exact HK.out | apply KeepBut.set_ | apply keep_drewN | apply keep_drew | apply keep_alloc) | exact HK.out)) (KeepBut.of_below hb g none) (.inl rfl)); have n4_ := Aside0.mk (below_step (by repeat (first | (with_reducible first | exact HB.out | apply below_alloc | apply pw_below_drewN | apply below_drew1 | refine below_set ?_ (IsS106.ge HI0.out)) | exact HB.out)) hb); clear HO538; clear HI0; clear HK; clear HB; have HO538 := n0_; have HO542 := n1_; have HI0 := n2_; have HK := n3_; have HB := n4_; clear n0_ n1_ n2_ n3_ n4_; (try clear hb); (try clear hb2); (try clear hk); (try clear hi); (try clear ho0); obtain ⟨Ao16, co16, eo16⟩ := Kd.S_slice HO542.out; subst eo16) | ((with_reducible refine gate_callee (f := 81) rfl ?_); refine goesL_ (some 18) rfl rfl Try.func81 (by kernel_rfl) rfl #[.pointer (some ⟨g, 0, none⟩), .int .i64 (t540.length : Int)] rfl (by (try simp only [List.map_toArray, List.map_cons, List.map_nil]); first | done | rfl | (simp only [List.length_drop, List.length_take]; rfl)) ?_; (with_reducible refine (spec_l30Rd_pick.calls k g s0_0 t539 (t540.length : Int) t543 t544 w0 _ ?side1 ?side2 A6.out).mono ?_); (case side1 => repeat (first | (with_reducible first | exact HI0.out | apply IsS106.alloc | apply IsS106.drewN | apply IsS106.drew | apply IsS106.set_1) | exact HI0.out)); (case side2 => repeat (first | (with_reducible first | exact HB.out | apply below_alloc | apply pw_below_drewN | apply below_drew1 | refine below_set ?_ (IsS106.ge HI0.out)) | exact HB.out)); rintro e w17 ⟨rfl, hi, hb, hk⟩; refine ⟨_, rfl, ?_⟩; have n0_ := Aside0.mk (Kd.R_mono (Kd.R_keep (IsS106.apart (show IsS106 w0 _ g s0_0 t539 from by repeat (first | (with_reducible first | exact HI0.out | apply IsS106.alloc | apply IsS106.drewN | apply IsS106.drew | apply IsS106.set_1) | exact HI0.out)) (by (with_reducible repeat (first | apply Kd.R_alloc | apply Kd.R_drewN | apply Kd.R_drew)); exact HO538.out) (by decide)) hk (fun _ h => h.2)) (fun _ h => h.1)); have n1_ := Aside0.mk (Kd.S_mono (Kd.S_keep (IsS106.apartS (show IsS106 w0 _ g s0_0 t539 from by repeat (first | (with_reducible first | exact HI0.out | apply IsS106.alloc | apply IsS106.drewN | apply IsS106.drew | apply IsS106.set_1) | exact HI0.out)) (by (with_reducible repeat (first | apply Kd.S_alloc | apply Kd.S_drewN | apply Kd.S_drew)); exact HO542.out) (by decide)) hk (fun _ h => h.2)) (fun _ h => h.1)); have n2_ := Aside0.mk (KeepBut.trans (by repeat (first | (with_reducible first | exact HK.out | apply KeepBut.set_ | apply keep_drewN | apply keep_drew | apply keep_alloc) | exact HK.out)) hk (.inl rfl)); have n3_ := Aside0.mk (hb); have n4_ := Aside0.mk (hi); clear HO538; clear HO542; clear HK; clear HB; clear HI0; have HO538 := n0_; have HO542 := n1_; have HK := n2_; have HB := n3_; have HI0 := n4_; clear n0_ n1_ n2_ n3_ n4_; (try clear hb); (try clear hb2); (try clear hk); (try clear hi)) | ((with_reducible refine gate_callee (f := 81) rfl ?_); refine goesL_ (some 20) rfl rfl Try.func81 (by kernel_rfl) rfl #[.pointer (some ⟨g, 0, none⟩), .int .i64 14] rfl (by (try simp only [List.map_toArray, List.map_cons, List.map_nil]); first | done | rfl | (simp only [List.length_drop, List.length_take]; rfl)) ?_; (with_reducible refine (spec_l30Rd_pick.calls k g s0_0 t544 14 t545 t546 w0 _ ?side1 ?side2 A7.out).mono ?_); (case side1 => repeat (first | (with_reducible first | exact HI0.out | apply IsS106.alloc | apply IsS106.drewN | apply IsS106.drew | apply IsS106.set_1) | exact HI0.out)); (case side2 => repeat (first | (with_reducible first | exact HB.out | apply below_alloc | apply pw_below_drewN | apply below_drew1 | refine below_set ?_ (IsS106.ge HI0.out)) | exact HB.out)); rintro e w18 ⟨rfl, hi, hb, hk⟩; refine ⟨_, rfl, ?_⟩; have n0_ := Aside0.mk (Kd.R_mono (Kd.R_keep (IsS106.apart (show IsS106 w0 _ g s0_0 t544 from by repeat (first | (with_reducible first | exact HI0.out | apply IsS106.alloc | apply IsS106.drewN | apply IsS106.drew | apply IsS106.set_1) | exact HI0.out)) (by (with_reducible repeat (first | apply Kd.R_alloc | apply Kd.R_drewN | apply Kd.R_drew)); exact HO538.out) (by decide)) hk (fun _ h => h.2)) (fun _ h => h.1)); have n1_ := Aside0.mk (Kd.S_mono (Kd.S_keep (IsS106.apartS (show IsS106 w0 _ g s0_0 t544 from by repeat (first | (with_reducible first | exact HI0.out | apply IsS106.alloc | apply IsS106.drewN | apply IsS106.drew | apply IsS106.set_1) | exact HI0.out)) (by (with_reducible repeat (first | apply Kd.S_alloc | apply Kd.S_drewN | apply Kd.S_drew)); exact HO542.out) (by decide)) hk (fun _ h => h.2)) (fun _ h => h.1)); have n2_ := Aside0.mk (KeepBut.trans (by repeat (first | (with_reducible first | exact HK.out | apply KeepBut.set_ | apply keep_drewN | apply keep_drew | apply keep_alloc) | exact HK.out)) hk (.inl rfl)); have n3_ := Aside0.mk (hb); have n4_ := Aside0.mk (hi); clear HO538; clear HO542; clear HK; clear HB; clear HI0; have HO538 := n0_; have HO542 := n1_; have HK := n2_; have HB := n3_; have HI0 := n4_; clear n0_ n1_ n2_ n3_ n4_; (try clear hb); (try clear hb2); (try clear hk); (try clear hi)) | ((with_reducible refine gate_dst (N := 26) rfl ?_); refine Kd.R_lit (Kd.int .i64) _ 3 ?hg (N := 26) ?hd (xs := ([(-1), 9, 0] : List Int)) (inner := [.int .i64 (-1), .int .i64 9, .int .i64 0]) (ok := fun _ => True) (okp := fun _ => True) ?hr ?hp (fun _ hk => hk) trivial (Below.refl _ _) (Nat.le_refl _) (by simp) ?_; (case hd => rfl); (case hg => rfl); (case hr => first | (go_simp; done) | (go_simp; rfl)); (case hp => exact (Reps.one (show Kd.M (Kd.int .i64) _ _ _ (-1) [.int .i64 (-1)] from rfl) (Reps.one (show Kd.M (Kd.int .i64) _ _ _ 9 [.int .i64 9] from rfl) (Reps.one (show Kd.M (Kd.int .i64) _ _ _ 0 [.int .i64 0] from rfl) (Reps.none _ _))))); intro v548 w19 ho20 hb hg_ hnew_; clear hg_ hnew_; (first | rw [← Ny547.out] at ho20 | (simp only [Int.reduceToNat] at ho20; rw [← Ny547.out] at ho20)); have n0_ := Aside0.mk (Kd.R_below (by (with_reducible repeat (first | apply Kd.R_alloc | apply Kd.R_drewN | apply Kd.R_drew)); exact HO538.out) hb); have n1_ := Aside0.mk (Kd.S_below (by (with_reducible repeat (first | apply Kd.S_alloc | apply Kd.S_drewN | apply Kd.S_drew)); exact HO542.out) hb); have n2_ := Aside0.mk (Kd.R_lower ho20 (keep_size (w := w) (g := g) (row := none) (by repeat (first | (with_reducible first | exact HK.out | apply KeepBut.set_ | apply keep_drewN | apply keep_drew | apply keep_alloc) | exact HK.out)))); have n3_ := Aside0.mk (IsS106.below (by repeat (first | (with_reducible first | exact HI0.out | apply IsS106.alloc | apply IsS106.drewN | apply IsS106.drew | apply IsS106.set_1) | exact HI0.out)) hb); have n4_ := Aside0.mk (KeepBut.trans (by repeat (first | (with_reducible first | exact HK.out | apply KeepBut.set_ | apply keep_drewN | apply keep_drew | apply keep_alloc) | exact HK.out)) (KeepBut.of_below hb g none) (.inl rfl)); have n5_ := Aside0.mk (below_step (by repeat (first | (with_reducible first | exact HB.out | apply below_alloc | apply pw_below_drewN | apply below_drew1 | refine below_set ?_ (IsS106.ge HI0.out)) | exact HB.out)) hb); clear HO538; clear HO542; clear HI0; clear HK; clear HB; have HO538 := n0_; have HO542 := n1_; have HO549 := n2_; have HI0 := n3_; have HK := n4_; have HB := n5_; clear n0_ n1_ n2_ n3_ n4_ n5_; clear hb ho20; obtain ⟨Ao21, co21, eo21⟩ := Kd.R_slice HO549.out; subst eo21) | ((with_reducible refine gate_callee (f := 108) rfl ?_); refine goesL_ (some 27) rfl rfl Try.func108 (by kernel_rfl) rfl #[.pointer (some ⟨g, 0, none⟩), .slice Ao21 y547.length co21] rfl (by (try simp only [List.map_toArray, List.map_cons, List.map_nil]); first | done | rfl | (simp only [List.length_drop, List.length_take]; rfl)) ?_; (with_reducible refine (spec_l30Rd_one.calls k g s0_0 t546 _ _ y547 t550 t551 w0 _ ?side1 ?side2 ?side3 ?side4 ?side5 A9.out).mono ?_); (case side1 => repeat (first | (with_reducible first | exact HI0.out | apply IsS106.alloc | apply IsS106.drewN | apply IsS106.drew | apply IsS106.set_1) | exact HI0.out)); (case side2 => repeat (first | (with_reducible first | exact HB.out | apply below_alloc | apply pw_below_drewN | apply below_drew1 | refine below_set ?_ (IsS106.ge HI0.out)) | exact HB.out)); (case side3 => repeat (first | exact (Kd.R_reads' HO549.out).2.2 | (with_reducible refine Kd.C_alloc ?_ _) | (with_reducible refine Kd.C_drewN ?_ _) | (with_reducible refine Kd.C_drew ?_))); (case side4 => exact (Kd.R_reads' HO549.out).2.1); (case side5 => exact far_slice (IsS106.own_ne HI0.out HO549.out (by decide))); rintro e w22 ⟨rfl, hi, hb, hk⟩; refine ⟨_, rfl, ?_⟩; have n0_ := Aside0.mk (Kd.R_mono (Kd.R_keep (IsS106.apart (show IsS106 w0 _ g s0_0 t546 from by repeat (first | (with_reducible first | exact HI0.out | apply IsS106.alloc | apply IsS106.drewN | apply IsS106.drew | apply IsS106.set_1) | exact HI0.out)) (by (with_reducible repeat (first | apply Kd.R_alloc | apply Kd.R_drewN | apply Kd.R_drew)); exact HO538.out) (by decide)) hk (fun _ h => h.2)) (fun _ h => h.1)); have n1_ := Aside0.mk (Kd.S_mono (Kd.S_keep (IsS106.apartS (show IsS106 w0 _ g s0_0 t546 from by repeat (first | (with_reducible first | exact HI0.out | apply IsS106.alloc | apply IsS106.drewN | apply IsS106.drew | apply IsS106.set_1) | exact HI0.out)) (by (with_reducible repeat (first | apply Kd.S_alloc | apply Kd.S_drewN | apply Kd.S_drew)); exact HO542.out) (by decide)) hk (fun _ h => h.2)) (fun _ h => h.1)); have n2_ := Aside0.mk (Kd.R_mono (Kd.R_keep (IsS106.apart (show IsS106 w0 _ g s0_0 t546 from by repeat (first | (with_reducible first | exact HI0.out | apply IsS106.alloc | apply IsS106.drewN | apply IsS106.drew | apply IsS106.set_1) | exact HI0.out)) (by (with_reducible repeat (first | apply Kd.R_alloc | apply Kd.R_drewN | apply Kd.R_drew)); exact HO549.out) (by decide)) hk (fun _ h => h.2)) (fun _ h => h.1)); have n3_ := Aside0.mk (KeepBut.trans (by repeat (first | (with_reducible first | exact HK.out | apply KeepBut.set_ | apply keep_drewN | apply keep_drew | apply keep_alloc) | exact HK.out)) hk (.inl rfl)); have n4_ := Aside0.mk (hb); have n5_ := Aside0.mk (hi); clear HO538; clear HO542; clear HO549; clear HK; clear HB; clear HI0; have HO538 := n0_; have HO542 := n1_; have HO549 := n2_; have HK := n3_; have HB := n4_; have HI0 := n5_; clear n0_ n1_ n2_ n3_ n4_ n5_; (try clear hb); (try clear hb2); (try clear hk); (try clear hi); have p12 : 0 ≤ (t543 : Int) := of_decide_eq_true (by assumption); have q12 : (t543 : Int) < ((t540.length : Int) : Int) := of_decide_eq_true (by assumption); obtain ⟨go12, co12, eo12, gb12, gl12, cl12, HG12⟩ := Kd.S_form HO542.out (by omega); (first | cases eo12 | (injection eo12 with ea_ en_ ec_; (first | subst ea_ | (injection ea_ with ea_; subst ea_)); subst ec_; clear en_)); have GB12 := Aside0.mk gb12; have GG12 := Aside0.mk HG12; clear gb12 gl12 HG12; obtain ⟨_, ce12, hcl12, hM12, hcc12, hfr12, _, _⟩ := Kd.S_elem HO542.out z39 (t543 : Int) p12 q12; obtain ⟨ve12_2, rfl, ge12_2⟩ := k39_openM hM12; have hx12_0 : w22.cell? ⟨go12, (t543 : Int).toNat * 3, none⟩ = some (.int .i64 ((rd_T39 t540 t543).f0)) := hcc12 0 _ rfl; have hx12_1 : w22.cell? ⟨go12, (t543 : Int).toNat * 3 + 1, none⟩ = some (.int .i64 ((rd_T39 t540 t543).f1)) := hcc12 1 _ rfl; have hx12_2 : w22.cell? ⟨go12, (t543 : Int).toNat * 3 + 2, none⟩ = some (ve12_2) := hcc12 2 _ rfl; have hf12_0 : w22.frozen? ⟨go12, (t543 : Int).toNat * 3, none⟩ = false := hfr12 0; have hf12_1 : w22.frozen? ⟨go12, (t543 : Int).toNat * 3 + 1, none⟩ = false := hfr12 1; have hf12_2 : w22.frozen? ⟨go12, (t543 : Int).toNat * 3 + 2, none⟩ = false := hfr12 2; clear hcl12 hcc12 hfr12 hM12; replace p12 := eq_true p12; replace q12 := eq_true q12; have n_ := Aside0.mk (Kd.S_mono (ok' := (fun k_ => some k_ ≠ (.slice Ao14 t536.length co14 : Value).ownBlock)) HO542.out (fun k_ hk => hk.2)); clear HO542; have HO542 := n_; clear n_; have HX23 := Aside0.mk (show Kd.S k39 39 w22 w.heap.size (fun k_ => ((fun k_ => some k_ ≠ (.slice Ao14 t536.length co14 : Value).ownBlock)) k_ ∧ ¬ ((fun _ => False)) k_) (.slice (some ⟨go12, 0, none⟩) t540.length co16) t540 from (by (with_reducible repeat (first | apply Kd.S_alloc | apply Kd.S_drewN | apply Kd.S_drew)); exact Kd.S_mono HO542.out (fun k_ hk => ⟨hk, fun e_ => e_⟩))); obtain ⟨oki23, ce23, hcl23, hM23, hcc23, hfr23, hoki23, hH23⟩ := Kd.S_elem HX23.out z39 (t543 : Int) (of_decide_eq_true (by assumption)) (by have h_ : (t543 : Int) < ((t540.length : Int) : Int) := of_decide_eq_true (by assumption); first | exact h_ | (have e_ := (Kd.S_reads' HO542.out).1; omega) | simpa using h_); obtain ⟨ve23_2, rfl, ge23_2⟩ := k39_openM hM23; have HP23 := Kd.S_seg hH23 (of_decide_eq_true (by assumption)) (by have h_ : (t543 : Int) < ((t540.length : Int) : Int) := of_decide_eq_true (by assumption); first | exact h_ | (have e_ := (Kd.S_reads' HO542.out).1; omega) | simpa using h_) (seg := [.int .i64 t550]) (j := 1) (show 2 ≤ 3 from by decide) (x' := (⟨(rd_T39 t540 t543).f0, t550, (rd_T39 t540 t543).f2⟩ : S39)) (k39_mkM _ _ _ (⟨(rd_T39 t540 t543).f0, t550, (rd_T39 t540 t543).f2⟩ : S39) (Kd.R_mono ge23_2 (fun _ h_ => Or.inl h_))) (fun _ hk => hk) (fun k_ hk_ => hk_.elim); have hx23_1 := hcc23 1 _ rfl; (try simp only [show (k39).sz = 3 from rfl, Nat.mul_one, Nat.add_zero] at hx23_1); have hf23_1 := hfr23 1; (try simp only [show (k39).sz = 3 from rfl, Nat.mul_one, Nat.add_zero] at hf23_1); clear hcl23 hcc23 hfr23 hM23 hoki23 hH23) | ((with_reducible refine gate_store (t := 3) (p := 29) rfl ?_); refine store_event (t := 3) (p := 29) (v := ?vo_w24) (w1 := (w22.setCell ⟨go12, (t543 : Int).toNat * 3 + 1, none⟩ (.int .i64 t550))) ?hg ?ho ?hn ?hr ?_; (case ho => rfl); (case hg => rfl); (case hn => rfl); (case hr => first | (go_simp; done) | (go_simp; rfl)); intro w24 hw; have hg : w22.grownBy w24 (some go12) := (by rw [hw]; exact HP23.2); have hp_ : Kd.S k39 39 w24 w.heap.size (fun k_ => some k_ ≠ (.slice Ao14 t536.length co14 : Value).ownBlock) (.slice (some ⟨go12, 0, none⟩) t540.length co16) y552 := (by rw [hw, Ny552.out]; exact HP23.1); clear HP23; have n0_ := Aside0.mk (IsS106.grown (by repeat (first | (with_reducible first | exact HI0.out | apply IsS106.alloc | apply IsS106.drewN | apply IsS106.drew | apply IsS106.set_1) | exact HI0.out)) hg (IsS106.own_neS HI0.out HO542.out (by decide))); have n1_ := Aside0.mk (Kd.R_over' (v := (.slice (some ⟨go12, 0, none⟩) t540.length co16)) (by (with_reducible repeat (first | apply Kd.R_alloc | apply Kd.R_drewN | apply Kd.R_drew)); exact HO538.out) (Kd.S_typed HO542.out) (by decide) hg); have n2_ := Aside0.mk (hp_); have n3_ := Aside0.mk (Kd.R_over' (v := (.slice (some ⟨go12, 0, none⟩) t540.length co16)) (by (with_reducible repeat (first | apply Kd.R_alloc | apply Kd.R_drewN | apply Kd.R_drew)); exact HO549.out) (Kd.S_typed HO542.out) (by decide) hg); have n4_ := Aside0.mk ((by rw [hw]; exact below_set (HB.out) (Nat.le_trans HL.out GB12.out) : Below w0.heap.size w0 w24)); have n5_ := Aside0.mk (KeepBut.trans (by repeat (first | (with_reducible first | exact HK.out | apply KeepBut.set_ | apply keep_drewN | apply keep_drew | apply keep_alloc) | exact HK.out)) (KeepBut.of_grown hg g) (Kd.S_base2 HO542.out)); clear HI0; clear HO538; clear HO542; clear HO549; clear HB; clear HK; have HI0 := n0_; have HO538 := n1_; have HO542 := n2_; have HO549 := n3_; have HB := n4_; have HK := n5_; clear n0_ n1_ n2_ n3_ n4_ n5_; clear hg hw hp_))
         go_ret
         exact ⟨_, by first | rfl | (simp [errW_none, errW_some] <;> rfl) | (simp [*, errW_none, errW_some] <;> rfl), by (with_reducible repeat (first | apply Kd.S_alloc | apply Kd.S_drewN | apply Kd.S_drew)); exact Kd.S_mono HO542.out (fun _ hk => trivial), by repeat (first | (with_reducible first | exact HI0.out | apply IsS106.alloc | apply IsS106.drewN | apply IsS106.drew | apply IsS106.set_1) | exact HI0.out), by repeat (first | (with_reducible first | exact HB.out | apply below_alloc | apply pw_below_drewN | apply below_drew1 | refine below_set ?_ (IsS106.ge HI0.out)) | exact HB.out), by repeat (first | (with_reducible first | exact HK.out | apply KeepBut.set_ | apply keep_drewN | apply keep_drew | apply keep_alloc) | exact HK.out)⟩
       · rw [if_neg c11] at H
         exact absurd H (by simp)
     · rw [if_neg c10] at H
       exact absurd H (by simp)
   · rw [if_neg c8] at H
     have c8b0 : (t545 == 0) = false := beq_eq_false_iff_ne.mpr c8
     have c8b1 : (t545 != 0) = true := bne_iff_ne.mpr c8
     by_cases c25 : t545 = 1
     · rw [if_pos c25] at H
       have c25b0 : (t545 == 1) = true := beq_iff_eq.mpr c25
       have c25b1 : (t545 != 1) = false := bne_eq_false_iff_eq.mpr c25
       clear c25
       obtain ⟨y553, hy553⟩ : ∃ y_ : List Int, y_ = (([(-1), 10, 1] : List Int)) := ⟨_, rfl⟩
       replace H : ((spec_l30Rd_one.f k s0_0 t546 y553).bind fun bt556 => (if 0 ≤ t543 then (if t543 < (t540.length : Int) then (some ((t540.set (t543 : Int).toNat (⟨bt556.1, (rd_T39 t540 t543).f1, (rd_T39 t540 t543).f2⟩ : S39)), bt556.2)) else (none)) else (none))) = some (r1, r2) := by first | (rw [hy553]; with_reducible exact H) | (have H2_ := (Option.bind_some _ _).symm.trans H; rw [hy553]; with_reducible exact H2_) | (have H2_ := (Option.bind_some _ _).symm.trans H; with_reducible exact H2_) | with_reducible exact H | (rw [hy553]; exact H) | exact H
       have Ny553 := Aside0.mk hy553
       clear hy553
       replace H := Option.bind_eq_some_iff.mp H
       obtain ⟨⟨t556, t557⟩, A260, H⟩ := H
       replace H : (if 0 ≤ t543 then (if t543 < (t540.length : Int) then (some ((t540.set (t543 : Int).toNat (⟨t556, (rd_T39 t540 t543).f1, (rd_T39 t540 t543).f2⟩ : S39)), t557)) else (none)) else (none)) = some (r1, r2) := H
       have A26 := Aside0.mk A260
       clear A260
       by_cases c27 : 0 ≤ t543
       · rw [if_pos c27] at H
         have c27b0 : decide (0 ≤ t543) = true := decide_eq_true c27
         clear c27
         by_cases c28 : t543 < (t540.length : Int)
         · rw [if_pos c28] at H
           have c28b0 : decide (t543 < (t540.length : Int)) = true := decide_eq_true c28
           clear c28
           obtain ⟨y558, hy558⟩ : ∃ y_ : List (S39), y_ = (t540.set (t543 : Int).toNat (⟨t556, (rd_T39 t540 t543).f1, (rd_T39 t540 t543).f2⟩ : S39)) := ⟨_, rfl⟩
           replace H : (some (y558, t557)) = some (r1, r2) := by first | (rw [hy558]; with_reducible exact H) | (have H2_ := (Option.bind_some _ _).symm.trans H; rw [hy558]; with_reducible exact H2_) | (have H2_ := (Option.bind_some _ _).symm.trans H; with_reducible exact H2_) | with_reducible exact H | (rw [hy558]; exact H) | exact H
           have Ny558 := Aside0.mk hy558
           clear hy558
           simp only [Option.some.injEq, Prod.mk.injEq] at H
           obtain ⟨rfl, rfl⟩ := H
           go_enter Try.func80, Try.ntmps80
           go_wp2_with (first | ((with_reducible refine gate_callee (f := 82) rfl ?_); refine goesL_ (some 10) rfl rfl Try.func82 (by kernel_rfl) rfl #[.pointer (some ⟨g, 0, none⟩), .slice A1 l1.length c1] rfl (by (try simp only [List.map_toArray, List.map_cons, List.map_nil]); first | done | rfl | (simp only [List.length_drop, List.length_take]; rfl)) ?_; (with_reducible refine (spec_l30Turn.calls k g s0_0 s0_1 _ _ l1 t536 t539 w0 _ ?side1 ?side2 ?side3 ?side4 ?side5 A3.out).mono ?_); (case side1 => repeat (first | (with_reducible first | exact HI0.out | apply IsS106.alloc | apply IsS106.drewN | apply IsS106.drew | apply IsS106.set_1) | exact HI0.out)); (case side2 => repeat (first | (with_reducible first | exact HB.out | apply below_alloc | apply pw_below_drewN | apply below_drew1 | refine below_set ?_ (IsS106.ge HI0.out)) | exact HB.out)); (case side3 => exact Kd.C_keep (⟨#[]⟩ : ByteArray) HR1.out (by repeat (first | (with_reducible first | exact HK.out | apply KeepBut.set_ | apply keep_drewN | apply keep_drew | apply keep_alloc) | exact HK.out)) hf1); (case side4 => exact HC1.out); (case side5 => exact hf1); rintro e w30 ⟨v537, rfl, ho0, hi, hb, hk⟩; refine ⟨_, rfl, ?_⟩; have n0_ := Aside0.mk (Kd.R_lower ho0 (keep_size (w := w) (g := g) (row := none) (by repeat (first | (with_reducible first | exact HK.out | apply KeepBut.set_ | apply keep_drewN | apply keep_drew | apply keep_alloc) | exact HK.out)))); have n1_ := Aside0.mk (KeepBut.trans (by repeat (first | (with_reducible first | exact HK.out | apply KeepBut.set_ | apply keep_drewN | apply keep_drew | apply keep_alloc) | exact HK.out)) hk (.inl rfl)); have n2_ := Aside0.mk (hb); have n3_ := Aside0.mk (hi); clear HK; clear HB; clear HI0; have HO538 := n0_; have HK := n1_; have HB := n2_; have HI0 := n3_; clear n0_ n1_ n2_ n3_; (try clear hb); (try clear hb2); (try clear hk); (try clear hi); (try clear ho0); obtain ⟨Ao31, co31, eo31⟩ := Kd.R_slice HO538.out; subst eo31) | ((with_reducible refine gate_callee (f := 23) rfl ?_); refine goesL_ (some 11) rfl rfl Try.func23 (by kernel_rfl) rfl #[.slice A1 l1.length c1, .slice Ao31 t536.length co31] rfl (by (try simp only [List.map_toArray, List.map_cons, List.map_nil]); first | done | rfl | (simp only [List.length_drop, List.length_take]; rfl)) ?_; (with_reducible refine (spec_DeltaOf.calls k _ _ l1 _ _ t536 t540 _ ?side1 ?side2 ?side3 ?side4 A4.out).mono ?_); (case side1 => exact Kd.C_keep (⟨#[]⟩ : ByteArray) HR1.out (by repeat (first | (with_reducible first | exact HK.out | apply KeepBut.set_ | apply keep_drewN | apply keep_drew | apply keep_alloc) | exact HK.out)) hf1); (case side2 => exact HC1.out); (case side3 => repeat (first | exact (Kd.R_reads' HO538.out).2.2 | (with_reducible refine Kd.C_alloc ?_ _) | (with_reducible refine Kd.C_drewN ?_ _) | (with_reducible refine Kd.C_drew ?_))); (case side4 => exact (Kd.R_reads' HO538.out).2.1); rintro e w32 ⟨v541, rfl, ho0, hb⟩; refine ⟨_, rfl, ?_⟩; have n0_ := Aside0.mk (Kd.R_below (by (with_reducible repeat (first | apply Kd.R_alloc | apply Kd.R_drewN | apply Kd.R_drew)); exact HO538.out) hb); have n1_ := Aside0.mk (Kd.S_lower (Kd.S_new' ho0 (Kd.R_lt (by (with_reducible repeat (first | apply Kd.R_alloc | apply Kd.R_drewN | apply Kd.R_drew)); exact HO538.out))) (keep_size (w := w) (g := g) (row := none) (by repeat (first | (with_reducible first | exact HK.out | apply KeepBut.set_ | apply keep_drewN | apply keep_drew | apply keep_alloc) | exact HK.out)))); have n2_ := Aside0.mk (IsS106.below (by repeat (first | (with_reducible first | exact HI0.out | apply IsS106.alloc | apply IsS106.drewN | apply IsS106.drew | apply IsS106.set_1) | exact HI0.out)) hb); have n3_ := Aside0.mk (KeepBut.trans (by repeat (first | (with_reducible first | exact HK.out | apply KeepBut.set_ | apply keep_drewN | apply keep_drew | apply keep_alloc) | exact HK.out)) (KeepBut.of_below hb g none) (.inl rfl)); have n4_ := Aside0.mk (below_step (by repeat (first | (with_reducible first | exact HB.out | apply below_alloc | apply pw_below_drewN | apply below_drew1 | refine below_set ?_ (IsS106.ge HI0.out)) | exact HB.out)) hb); clear HO538; clear HI0; clear HK; clear HB; have HO538 := n0_; have HO542 := n1_; have HI0 := n2_; have HK := n3_; have HB := n4_; clear n0_ n1_ n2_ n3_ n4_; (try clear hb); (try clear hb2); (try clear hk); (try clear hi); (try clear ho0); obtain ⟨Ao33, co33, eo33⟩ := Kd.S_slice HO542.out; subst eo33) | ((with_reducible refine gate_callee (f := 81) rfl ?_); refine goesL_ (some 18) rfl rfl Try.func81 (by kernel_rfl) rfl #[.pointer (some ⟨g, 0, none⟩), .int .i64 (t540.length : Int)] rfl (by (try simp only [List.map_toArray, List.map_cons, List.map_nil]); first | done | rfl | (simp only [List.length_drop, List.length_take]; rfl)) ?_; (with_reducible refine (spec_l30Rd_pick.calls k g s0_0 t539 (t540.length : Int) t543 t544 w0 _ ?side1 ?side2 A6.out).mono ?_); (case side1 => repeat (first | (with_reducible first | exact HI0.out | apply IsS106.alloc | apply IsS106.drewN | apply IsS106.drew | apply IsS106.set_1) | exact HI0.out)); (case side2 => repeat (first | (with_reducible first | exact HB.out | apply below_alloc | apply pw_below_drewN | apply below_drew1 | refine below_set ?_ (IsS106.ge HI0.out)) | exact HB.out)); rintro e w34 ⟨rfl, hi, hb, hk⟩; refine ⟨_, rfl, ?_⟩; have n0_ := Aside0.mk (Kd.R_mono (Kd.R_keep (IsS106.apart (show IsS106 w0 _ g s0_0 t539 from by repeat (first | (with_reducible first | exact HI0.out | apply IsS106.alloc | apply IsS106.drewN | apply IsS106.drew | apply IsS106.set_1) | exact HI0.out)) (by (with_reducible repeat (first | apply Kd.R_alloc | apply Kd.R_drewN | apply Kd.R_drew)); exact HO538.out) (by decide)) hk (fun _ h => h.2)) (fun _ h => h.1)); have n1_ := Aside0.mk (Kd.S_mono (Kd.S_keep (IsS106.apartS (show IsS106 w0 _ g s0_0 t539 from by repeat (first | (with_reducible first | exact HI0.out | apply IsS106.alloc | apply IsS106.drewN | apply IsS106.drew | apply IsS106.set_1) | exact HI0.out)) (by (with_reducible repeat (first | apply Kd.S_alloc | apply Kd.S_drewN | apply Kd.S_drew)); exact HO542.out) (by decide)) hk (fun _ h => h.2)) (fun _ h => h.1)); have n2_ := Aside0.mk (KeepBut.trans (by repeat (first | (with_reducible first | exact HK.out | apply KeepBut.set_ | apply keep_drewN | apply keep_drew | apply keep_alloc) | exact HK.out)) hk (.inl rfl)); have n3_ := Aside0.mk (hb); have n4_ := Aside0.mk (hi); clear HO538; clear HO542; clear HK; clear HB; clear HI0; have HO538 := n0_; have HO542 := n1_; have HK := n2_; have HB := n3_; have HI0 := n4_; clear n0_ n1_ n2_ n3_ n4_; (try clear hb); (try clear hb2); (try clear hk); (try clear hi)) | ((with_reducible refine gate_callee (f := 81) rfl ?_); refine goesL_ (some 20) rfl rfl Try.func81 (by kernel_rfl) rfl #[.pointer (some ⟨g, 0, none⟩), .int .i64 14] rfl (by (try simp only [List.map_toArray, List.map_cons, List.map_nil]); first | done | rfl | (simp only [List.length_drop, List.length_take]; rfl)) ?_; (with_reducible refine (spec_l30Rd_pick.calls k g s0_0 t544 14 t545 t546 w0 _ ?side1 ?side2 A7.out).mono ?_); (case side1 => repeat (first | (with_reducible first | exact HI0.out | apply IsS106.alloc | apply IsS106.drewN | apply IsS106.drew | apply IsS106.set_1) | exact HI0.out)); (case side2 => repeat (first | (with_reducible first | exact HB.out | apply below_alloc | apply pw_below_drewN | apply below_drew1 | refine below_set ?_ (IsS106.ge HI0.out)) | exact HB.out)); rintro e w35 ⟨rfl, hi, hb, hk⟩; refine ⟨_, rfl, ?_⟩; have n0_ := Aside0.mk (Kd.R_mono (Kd.R_keep (IsS106.apart (show IsS106 w0 _ g s0_0 t544 from by repeat (first | (with_reducible first | exact HI0.out | apply IsS106.alloc | apply IsS106.drewN | apply IsS106.drew | apply IsS106.set_1) | exact HI0.out)) (by (with_reducible repeat (first | apply Kd.R_alloc | apply Kd.R_drewN | apply Kd.R_drew)); exact HO538.out) (by decide)) hk (fun _ h => h.2)) (fun _ h => h.1)); have n1_ := Aside0.mk (Kd.S_mono (Kd.S_keep (IsS106.apartS (show IsS106 w0 _ g s0_0 t544 from by repeat (first | (with_reducible first | exact HI0.out | apply IsS106.alloc | apply IsS106.drewN | apply IsS106.drew | apply IsS106.set_1) | exact HI0.out)) (by (with_reducible repeat (first | apply Kd.S_alloc | apply Kd.S_drewN | apply Kd.S_drew)); exact HO542.out) (by decide)) hk (fun _ h => h.2)) (fun _ h => h.1)); have n2_ := Aside0.mk (KeepBut.trans (by repeat (first | (with_reducible first | exact HK.out | apply KeepBut.set_ | apply keep_drewN | apply keep_drew | apply keep_alloc) | exact HK.out)) hk (.inl rfl)); have n3_ := Aside0.mk (hb); have n4_ := Aside0.mk (hi); clear HO538; clear HO542; clear HK; clear HB; clear HI0; have HO538 := n0_; have HO542 := n1_; have HK := n2_; have HB := n3_; have HI0 := n4_; clear n0_ n1_ n2_ n3_ n4_; (try clear hb); (try clear hb2); (try clear hk); (try clear hi)) | ((with_reducible refine gate_dst (N := 35) rfl ?_); refine Kd.R_lit (Kd.int .i64) _ 3 ?hg (N := 35) ?hd (xs := ([(-1), 10, 1] : List Int)) (inner := [.int .i64 (-1), .int .i64 10, .int .i64 1]) (ok := fun _ => True) (okp := fun _ => True) ?hr ?hp (fun _ hk => hk) trivial (Below.refl _ _) (Nat.le_refl _) (by simp) ?_; (case hd => rfl); (case hg => rfl); (case hr => first | (go_simp; done) | (go_simp; rfl)); (case hp => exact (Reps.one (show Kd.M (Kd.int .i64) _ _ _ (-1) [.int .i64 (-1)] from rfl) (Reps.one (show Kd.M (Kd.int .i64) _ _ _ 10 [.int .i64 10] from rfl) (Reps.one (show Kd.M (Kd.int .i64) _ _ _ 1 [.int .i64 1] from rfl) (Reps.none _ _))))); intro v554 w36 ho37 hb hg_ hnew_; clear hg_ hnew_; (first | rw [← Ny553.out] at ho37 | (simp only [Int.reduceToNat] at ho37; rw [← Ny553.out] at ho37)); have n0_ := Aside0.mk (Kd.R_below (by (with_reducible repeat (first | apply Kd.R_alloc | apply Kd.R_drewN | apply Kd.R_drew)); exact HO538.out) hb); have n1_ := Aside0.mk (Kd.S_below (by (with_reducible repeat (first | apply Kd.S_alloc | apply Kd.S_drewN | apply Kd.S_drew)); exact HO542.out) hb); have n2_ := Aside0.mk (Kd.R_lower ho37 (keep_size (w := w) (g := g) (row := none) (by repeat (first | (with_reducible first | exact HK.out | apply KeepBut.set_ | apply keep_drewN | apply keep_drew | apply keep_alloc) | exact HK.out)))); have n3_ := Aside0.mk (IsS106.below (by repeat (first | (with_reducible first | exact HI0.out | apply IsS106.alloc | apply IsS106.drewN | apply IsS106.drew | apply IsS106.set_1) | exact HI0.out)) hb); have n4_ := Aside0.mk (KeepBut.trans (by repeat (first | (with_reducible first | exact HK.out | apply KeepBut.set_ | apply keep_drewN | apply keep_drew | apply keep_alloc) | exact HK.out)) (KeepBut.of_below hb g none) (.inl rfl)); have n5_ := Aside0.mk (below_step (by repeat (first | (with_reducible first | exact HB.out | apply below_alloc | apply pw_below_drewN | apply below_drew1 | refine below_set ?_ (IsS106.ge HI0.out)) | exact HB.out)) hb); clear HO538; clear HO542; clear HI0; clear HK; clear HB; have HO538 := n0_; have HO542 := n1_; have HO555 := n2_; have HI0 := n3_; have HK := n4_; have HB := n5_; clear n0_ n1_ n2_ n3_ n4_ n5_; clear hb ho37; obtain ⟨Ao38, co38, eo38⟩ := Kd.R_slice HO555.out; subst eo38) | ((with_reducible refine gate_callee (f := 108) rfl ?_); refine goesL_ (some 36) rfl rfl Try.func108 (by kernel_rfl) rfl #[.pointer (some ⟨g, 0, none⟩), .slice Ao38 y553.length co38] rfl (by (try simp only [List.map_toArray, List.map_cons, List.map_nil]); first | done | rfl | (simp only [List.length_drop, List.length_take]; rfl)) ?_; (with_reducible refine (spec_l30Rd_one.calls k g s0_0 t546 _ _ y553 t556 t557 w0 _ ?side1 ?side2 ?side3 ?side4 ?side5 A26.out).mono ?_); (case side1 => repeat (first | (with_reducible first | exact HI0.out | apply IsS106.alloc | apply IsS106.drewN | apply IsS106.drew | apply IsS106.set_1) | exact HI0.out)); (case side2 => repeat (first | (with_reducible first | exact HB.out | apply below_alloc | apply pw_below_drewN | apply below_drew1 | refine below_set ?_ (IsS106.ge HI0.out)) | exact HB.out)); (case side3 => repeat (first | exact (Kd.R_reads' HO555.out).2.2 | (with_reducible refine Kd.C_alloc ?_ _) | (with_reducible refine Kd.C_drewN ?_ _) | (with_reducible refine Kd.C_drew ?_))); (case side4 => exact (Kd.R_reads' HO555.out).2.1); (case side5 => exact far_slice (IsS106.own_ne HI0.out HO555.out (by decide))); rintro e w39 ⟨rfl, hi, hb, hk⟩; refine ⟨_, rfl, ?_⟩; have n0_ := Aside0.mk (Kd.R_mono (Kd.R_keep (IsS106.apart (show IsS106 w0 _ g s0_0 t546 from by repeat (first | (with_reducible first | exact HI0.out | apply IsS106.alloc | apply IsS106.drewN | apply IsS106.drew | apply IsS106.set_1) | exact HI0.out)) (by (with_reducible repeat (first | apply Kd.R_alloc | apply Kd.R_drewN | apply Kd.R_drew)); exact HO538.out) (by decide)) hk (fun _ h => h.2)) (fun _ h => h.1)); have n1_ := Aside0.mk (Kd.S_mono (Kd.S_keep (IsS106.apartS (show IsS106 w0 _ g s0_0 t546 from by repeat (first | (with_reducible first | exact HI0.out | apply IsS106.alloc | apply IsS106.drewN | apply IsS106.drew | apply IsS106.set_1) | exact HI0.out)) (by (with_reducible repeat (first | apply Kd.S_alloc | apply Kd.S_drewN | apply Kd.S_drew)); exact HO542.out) (by decide)) hk (fun _ h => h.2)) (fun _ h => h.1)); have n2_ := Aside0.mk (Kd.R_mono (Kd.R_keep (IsS106.apart (show IsS106 w0 _ g s0_0 t546 from by repeat (first | (with_reducible first | exact HI0.out | apply IsS106.alloc | apply IsS106.drewN | apply IsS106.drew | apply IsS106.set_1) | exact HI0.out)) (by (with_reducible repeat (first | apply Kd.R_alloc | apply Kd.R_drewN | apply Kd.R_drew)); exact HO555.out) (by decide)) hk (fun _ h => h.2)) (fun _ h => h.1)); have n3_ := Aside0.mk (KeepBut.trans (by repeat (first | (with_reducible first | exact HK.out | apply KeepBut.set_ | apply keep_drewN | apply keep_drew | apply keep_alloc) | exact HK.out)) hk (.inl rfl)); have n4_ := Aside0.mk (hb); have n5_ := Aside0.mk (hi); clear HO538; clear HO542; clear HO555; clear HK; clear HB; clear HI0; have HO538 := n0_; have HO542 := n1_; have HO555 := n2_; have HK := n3_; have HB := n4_; have HI0 := n5_; clear n0_ n1_ n2_ n3_ n4_ n5_; (try clear hb); (try clear hb2); (try clear hk); (try clear hi); have p29 : 0 ≤ (t543 : Int) := of_decide_eq_true (by assumption); have q29 : (t543 : Int) < ((t540.length : Int) : Int) := of_decide_eq_true (by assumption); obtain ⟨go29, co29, eo29, gb29, gl29, cl29, HG29⟩ := Kd.S_form HO542.out (by omega); (first | cases eo29 | (injection eo29 with ea_ en_ ec_; (first | subst ea_ | (injection ea_ with ea_; subst ea_)); subst ec_; clear en_)); have GB29 := Aside0.mk gb29; have GG29 := Aside0.mk HG29; clear gb29 gl29 HG29; obtain ⟨_, ce29, hcl29, hM29, hcc29, hfr29, _, _⟩ := Kd.S_elem HO542.out z39 (t543 : Int) p29 q29; obtain ⟨ve29_2, rfl, ge29_2⟩ := k39_openM hM29; have hx29_0 : w39.cell? ⟨go29, (t543 : Int).toNat * 3, none⟩ = some (.int .i64 ((rd_T39 t540 t543).f0)) := hcc29 0 _ rfl; have hx29_1 : w39.cell? ⟨go29, (t543 : Int).toNat * 3 + 1, none⟩ = some (.int .i64 ((rd_T39 t540 t543).f1)) := hcc29 1 _ rfl; have hx29_2 : w39.cell? ⟨go29, (t543 : Int).toNat * 3 + 2, none⟩ = some (ve29_2) := hcc29 2 _ rfl; have hf29_0 : w39.frozen? ⟨go29, (t543 : Int).toNat * 3, none⟩ = false := hfr29 0; have hf29_1 : w39.frozen? ⟨go29, (t543 : Int).toNat * 3 + 1, none⟩ = false := hfr29 1; have hf29_2 : w39.frozen? ⟨go29, (t543 : Int).toNat * 3 + 2, none⟩ = false := hfr29 2; clear hcl29 hcc29 hfr29 hM29; replace p29 := eq_true p29; replace q29 := eq_true q29; have n_ := Aside0.mk (Kd.S_mono (ok' := (fun k_ => some k_ ≠ (.slice Ao31 t536.length co31 : Value).ownBlock)) HO542.out (fun k_ hk => hk.2)); clear HO542; have HO542 := n_; clear n_; have HX40 := Aside0.mk (show Kd.S k39 39 w39 w.heap.size (fun k_ => ((fun k_ => some k_ ≠ (.slice Ao31 t536.length co31 : Value).ownBlock)) k_ ∧ ¬ ((fun _ => False)) k_) (.slice (some ⟨go29, 0, none⟩) t540.length co33) t540 from (by (with_reducible repeat (first | apply Kd.S_alloc | apply Kd.S_drewN | apply Kd.S_drew)); exact Kd.S_mono HO542.out (fun k_ hk => ⟨hk, fun e_ => e_⟩))); obtain ⟨oki40, ce40, hcl40, hM40, hcc40, hfr40, hoki40, hH40⟩ := Kd.S_elem HX40.out z39 (t543 : Int) (of_decide_eq_true (by assumption)) (by have h_ : (t543 : Int) < ((t540.length : Int) : Int) := of_decide_eq_true (by assumption); first | exact h_ | (have e_ := (Kd.S_reads' HO542.out).1; omega) | simpa using h_); obtain ⟨ve40_2, rfl, ge40_2⟩ := k39_openM hM40; have HP40 := Kd.S_seg hH40 (of_decide_eq_true (by assumption)) (by have h_ : (t543 : Int) < ((t540.length : Int) : Int) := of_decide_eq_true (by assumption); first | exact h_ | (have e_ := (Kd.S_reads' HO542.out).1; omega) | simpa using h_) (seg := [.int .i64 t556]) (j := 0) (show 1 ≤ 3 from by decide) (x' := (⟨t556, (rd_T39 t540 t543).f1, (rd_T39 t540 t543).f2⟩ : S39)) (k39_mkM _ _ _ (⟨t556, (rd_T39 t540 t543).f1, (rd_T39 t540 t543).f2⟩ : S39) (Kd.R_mono ge40_2 (fun _ h_ => Or.inl h_))) (fun _ hk => hk) (fun k_ hk_ => hk_.elim); have hx40_0 := hcc40 0 _ rfl; (try simp only [show (k39).sz = 3 from rfl, Nat.mul_one, Nat.add_zero] at hx40_0); have hf40_0 := hfr40 0; (try simp only [show (k39).sz = 3 from rfl, Nat.mul_one, Nat.add_zero] at hf40_0); clear hcl40 hcc40 hfr40 hM40 hoki40 hH40) | ((with_reducible refine gate_store (t := 3) (p := 38) rfl ?_); refine store_event (t := 3) (p := 38) (v := ?vo_w41) (w1 := (w39.setCell ⟨go29, (t543 : Int).toNat * 3, none⟩ (.int .i64 t556))) ?hg ?ho ?hn ?hr ?_; (case ho => rfl); (case hg => rfl); (case hn => rfl); (case hr => first | (go_simp; done) | (go_simp; rfl)); intro w41 hw; have hg : w39.grownBy w41 (some go29) := (by rw [hw]; exact HP40.2); have hp_ : Kd.S k39 39 w41 w.heap.size (fun k_ => some k_ ≠ (.slice Ao31 t536.length co31 : Value).ownBlock) (.slice (some ⟨go29, 0, none⟩) t540.length co33) y558 := (by rw [hw, Ny558.out]; exact HP40.1); clear HP40; have n0_ := Aside0.mk (IsS106.grown (by repeat (first | (with_reducible first | exact HI0.out | apply IsS106.alloc | apply IsS106.drewN | apply IsS106.drew | apply IsS106.set_1) | exact HI0.out)) hg (IsS106.own_neS HI0.out HO542.out (by decide))); have n1_ := Aside0.mk (Kd.R_over' (v := (.slice (some ⟨go29, 0, none⟩) t540.length co33)) (by (with_reducible repeat (first | apply Kd.R_alloc | apply Kd.R_drewN | apply Kd.R_drew)); exact HO538.out) (Kd.S_typed HO542.out) (by decide) hg); have n2_ := Aside0.mk (hp_); have n3_ := Aside0.mk (Kd.R_over' (v := (.slice (some ⟨go29, 0, none⟩) t540.length co33)) (by (with_reducible repeat (first | apply Kd.R_alloc | apply Kd.R_drewN | apply Kd.R_drew)); exact HO555.out) (Kd.S_typed HO542.out) (by decide) hg); have n4_ := Aside0.mk ((by rw [hw]; exact below_set (HB.out) (Nat.le_trans HL.out GB29.out) : Below w0.heap.size w0 w41)); have n5_ := Aside0.mk (KeepBut.trans (by repeat (first | (with_reducible first | exact HK.out | apply KeepBut.set_ | apply keep_drewN | apply keep_drew | apply keep_alloc) | exact HK.out)) (KeepBut.of_grown hg g) (Kd.S_base2 HO542.out)); clear HI0; clear HO538; clear HO542; clear HO555; clear HB; clear HK; have HI0 := n0_; have HO538 := n1_; have HO542 := n2_; have HO555 := n3_; have HB := n4_; have HK := n5_; clear n0_ n1_ n2_ n3_ n4_ n5_; clear hg hw hp_))
           go_ret
           exact ⟨_, by first | rfl | (simp [errW_none, errW_some] <;> rfl) | (simp [*, errW_none, errW_some] <;> rfl), by (with_reducible repeat (first | apply Kd.S_alloc | apply Kd.S_drewN | apply Kd.S_drew)); exact Kd.S_mono HO542.out (fun _ hk => trivial), by repeat (first | (with_reducible first | exact HI0.out | apply IsS106.alloc | apply IsS106.drewN | apply IsS106.drew | apply IsS106.set_1) | exact HI0.out), by repeat (first | (with_reducible first | exact HB.out | apply below_alloc | apply pw_below_drewN | apply below_drew1 | refine below_set ?_ (IsS106.ge HI0.out)) | exact HB.out), by repeat (first | (with_reducible first | exact HK.out | apply KeepBut.set_ | apply keep_drewN | apply keep_drew | apply keep_alloc) | exact HK.out)⟩
         · rw [if_neg c28] at H
           exact absurd H (by simp)
       · rw [if_neg c27] at H
         exact absurd H (by simp)
     · rw [if_neg c25] at H
       have c25b0 : (t545 == 1) = false := beq_eq_false_iff_ne.mpr c25
       have c25b1 : (t545 != 1) = true := bne_iff_ne.mpr c25
       by_cases c42 : t545 = 2
       · rw [if_pos c42] at H
         have c42b0 : (t545 == 2) = true := beq_iff_eq.mpr c42
         have c42b1 : (t545 != 2) = false := bne_eq_false_iff_eq.mpr c42
         clear c42
         obtain ⟨y559, hy559⟩ : ∃ y_ : List ByteArray, y_ = (([] : List ByteArray)) := ⟨_, rfl⟩
         replace H : (if 0 ≤ t543 then (if t543 < (t540.length : Int) then (if y559.length + ((rd_T39 t540 t543).f2).length < 8796093022208 then ((some (y559 ++ ((rd_T39 t540 t543).f2) : List ByteArray)).bind fun y563 => (if y563.length < 8796093022208 then (some ((t540.set (t543 : Int).toNat (⟨(rd_T39 t540 t543).f0, (rd_T39 t540 t543).f1, (y563 ++ [(⟨#[122]⟩ : ByteArray)])⟩ : S39)), t546)) else (none))) else (none)) else (none)) else (none)) = some (r1, r2) := by first | (rw [hy559]; with_reducible exact H) | (have H2_ := (Option.bind_some _ _).symm.trans H; rw [hy559]; with_reducible exact H2_) | (have H2_ := (Option.bind_some _ _).symm.trans H; with_reducible exact H2_) | with_reducible exact H | (rw [hy559]; exact H) | exact H
         have Ny559 := Aside0.mk hy559
         clear hy559
         by_cases c43 : 0 ≤ t543
         · rw [if_pos c43] at H
           have c43b0 : decide (0 ≤ t543) = true := decide_eq_true c43
           clear c43
           by_cases c44 : t543 < (t540.length : Int)
           · rw [if_pos c44] at H
             have c44b0 : decide (t543 < (t540.length : Int)) = true := decide_eq_true c44
             clear c44
             by_cases c45 : y559.length + ((rd_T39 t540 t543).f2).length < 8796093022208
             · rw [if_pos c45] at H
               have LMc45 := Aside0.mk c45
               clear c45
               obtain ⟨y563, hy563⟩ : ∃ y_ : List ByteArray, y_ = (y559 ++ ((rd_T39 t540 t543).f2)) := ⟨_, rfl⟩
               replace H : (if y563.length < 8796093022208 then (some ((t540.set (t543 : Int).toNat (⟨(rd_T39 t540 t543).f0, (rd_T39 t540 t543).f1, (y563 ++ [(⟨#[122]⟩ : ByteArray)])⟩ : S39)), t546)) else (none)) = some (r1, r2) := by first | (rw [hy563]; with_reducible exact H) | (have H2_ := (Option.bind_some _ _).symm.trans H; rw [hy563]; with_reducible exact H2_) | (have H2_ := (Option.bind_some _ _).symm.trans H; with_reducible exact H2_) | with_reducible exact H | (rw [hy563]; exact H) | exact H
               have Ny563 := Aside0.mk hy563
               clear hy563
               by_cases c46 : y563.length < 8796093022208
               · rw [if_pos c46] at H
                 have LMc46 := Aside0.mk c46
                 clear c46
                 obtain ⟨y566, hy566⟩ : ∃ y_ : List ByteArray, y_ = (y563 ++ [(⟨#[122]⟩ : ByteArray)]) := ⟨_, rfl⟩
                 replace H : (some ((t540.set (t543 : Int).toNat (⟨(rd_T39 t540 t543).f0, (rd_T39 t540 t543).f1, y566⟩ : S39)), t546)) = some (r1, r2) := by first | (rw [hy566]; with_reducible exact H) | (have H2_ := (Option.bind_some _ _).symm.trans H; rw [hy566]; with_reducible exact H2_) | (have H2_ := (Option.bind_some _ _).symm.trans H; with_reducible exact H2_) | with_reducible exact H | (rw [hy566]; exact H) | exact H
                 have Ny566 := Aside0.mk hy566
                 clear hy566
                 obtain ⟨y569, hy569⟩ : ∃ y_ : List (S39), y_ = (t540.set (t543 : Int).toNat (⟨(rd_T39 t540 t543).f0, (rd_T39 t540 t543).f1, y566⟩ : S39)) := ⟨_, rfl⟩
                 replace H : (some (y569, t546)) = some (r1, r2) := by first | (rw [hy569]; with_reducible exact H) | (have H2_ := (Option.bind_some _ _).symm.trans H; rw [hy569]; with_reducible exact H2_) | (have H2_ := (Option.bind_some _ _).symm.trans H; with_reducible exact H2_) | with_reducible exact H | (rw [hy569]; exact H) | exact H
                 have Ny569 := Aside0.mk hy569
                 clear hy569
                 simp only [Option.some.injEq, Prod.mk.injEq] at H
                 obtain ⟨rfl, rfl⟩ := H
                 go_enter Try.func80, Try.ntmps80
                 go_wp2_with (first | ((with_reducible refine gate_callee (f := 82) rfl ?_); refine goesL_ (some 10) rfl rfl Try.func82 (by kernel_rfl) rfl #[.pointer (some ⟨g, 0, none⟩), .slice A1 l1.length c1] rfl (by (try simp only [List.map_toArray, List.map_cons, List.map_nil]); first | done | rfl | (simp only [List.length_drop, List.length_take]; rfl)) ?_; (with_reducible refine (spec_l30Turn.calls k g s0_0 s0_1 _ _ l1 t536 t539 w0 _ ?side1 ?side2 ?side3 ?side4 ?side5 A3.out).mono ?_); (case side1 => repeat (first | (with_reducible first | exact HI0.out | apply IsS106.alloc | apply IsS106.drewN | apply IsS106.drew | apply IsS106.set_1) | exact HI0.out)); (case side2 => repeat (first | (with_reducible first | exact HB.out | apply below_alloc | apply pw_below_drewN | apply below_drew1 | refine below_set ?_ (IsS106.ge HI0.out)) | exact HB.out)); (case side3 => exact Kd.C_keep (⟨#[]⟩ : ByteArray) HR1.out (by repeat (first | (with_reducible first | exact HK.out | apply KeepBut.set_ | apply keep_drewN | apply keep_drew | apply keep_alloc) | exact HK.out)) hf1); (case side4 => exact HC1.out); (case side5 => exact hf1); rintro e w48 ⟨v537, rfl, ho0, hi, hb, hk⟩; refine ⟨_, rfl, ?_⟩; have n0_ := Aside0.mk (Kd.R_lower ho0 (keep_size (w := w) (g := g) (row := none) (by repeat (first | (with_reducible first | exact HK.out | apply KeepBut.set_ | apply keep_drewN | apply keep_drew | apply keep_alloc) | exact HK.out)))); have n1_ := Aside0.mk (KeepBut.trans (by repeat (first | (with_reducible first | exact HK.out | apply KeepBut.set_ | apply keep_drewN | apply keep_drew | apply keep_alloc) | exact HK.out)) hk (.inl rfl)); have n2_ := Aside0.mk (hb); have n3_ := Aside0.mk (hi); clear HK; clear HB; clear HI0; have HO538 := n0_; have HK := n1_; have HB := n2_; have HI0 := n3_; clear n0_ n1_ n2_ n3_; (try clear hb); (try clear hb2); (try clear hk); (try clear hi); (try clear ho0); obtain ⟨Ao49, co49, eo49⟩ := Kd.R_slice HO538.out; subst eo49) | ((with_reducible refine gate_callee (f := 23) rfl ?_); refine goesL_ (some 11) rfl rfl Try.func23 (by kernel_rfl) rfl #[.slice A1 l1.length c1, .slice Ao49 t536.length co49] rfl (by (try simp only [List.map_toArray, List.map_cons, List.map_nil]); first | done | rfl | (simp only [List.length_drop, List.length_take]; rfl)) ?_; (with_reducible refine (spec_DeltaOf.calls k _ _ l1 _ _ t536 t540 _ ?side1 ?side2 ?side3 ?side4 A4.out).mono ?_); (case side1 => exact Kd.C_keep (⟨#[]⟩ : ByteArray) HR1.out (by repeat (first | (with_reducible first | exact HK.out | apply KeepBut.set_ | apply keep_drewN | apply keep_drew | apply keep_alloc) | exact HK.out)) hf1); (case side2 => exact HC1.out); (case side3 => repeat (first | exact (Kd.R_reads' HO538.out).2.2 | (with_reducible refine Kd.C_alloc ?_ _) | (with_reducible refine Kd.C_drewN ?_ _) | (with_reducible refine Kd.C_drew ?_))); (case side4 => exact (Kd.R_reads' HO538.out).2.1); rintro e w50 ⟨v541, rfl, ho0, hb⟩; refine ⟨_, rfl, ?_⟩; have n0_ := Aside0.mk (Kd.R_below (by (with_reducible repeat (first | apply Kd.R_alloc | apply Kd.R_drewN | apply Kd.R_drew)); exact HO538.out) hb); have n1_ := Aside0.mk (Kd.S_lower (Kd.S_new' ho0 (Kd.R_lt (by (with_reducible repeat (first | apply Kd.R_alloc | apply Kd.R_drewN | apply Kd.R_drew)); exact HO538.out))) (keep_size (w := w) (g := g) (row := none) (by repeat (first | (with_reducible first | exact HK.out | apply KeepBut.set_ | apply keep_drewN | apply keep_drew | apply keep_alloc) | exact HK.out)))); have n2_ := Aside0.mk (IsS106.below (by repeat (first | (with_reducible first | exact HI0.out | apply IsS106.alloc | apply IsS106.drewN | apply IsS106.drew | apply IsS106.set_1) | exact HI0.out)) hb); have n3_ := Aside0.mk (KeepBut.trans (by repeat (first | (with_reducible first | exact HK.out | apply KeepBut.set_ | apply keep_drewN | apply keep_drew | apply keep_alloc) | exact HK.out)) (KeepBut.of_below hb g none) (.inl rfl)); have n4_ := Aside0.mk (below_step (by repeat (first | (with_reducible first | exact HB.out | apply below_alloc | apply pw_below_drewN | apply below_drew1 | refine below_set ?_ (IsS106.ge HI0.out)) | exact HB.out)) hb); clear HO538; clear HI0; clear HK; clear HB; have HO538 := n0_; have HO542 := n1_; have HI0 := n2_; have HK := n3_; have HB := n4_; clear n0_ n1_ n2_ n3_ n4_; (try clear hb); (try clear hb2); (try clear hk); (try clear hi); (try clear ho0); obtain ⟨Ao51, co51, eo51⟩ := Kd.S_slice HO542.out; subst eo51) | ((with_reducible refine gate_callee (f := 81) rfl ?_); refine goesL_ (some 18) rfl rfl Try.func81 (by kernel_rfl) rfl #[.pointer (some ⟨g, 0, none⟩), .int .i64 (t540.length : Int)] rfl (by (try simp only [List.map_toArray, List.map_cons, List.map_nil]); first | done | rfl | (simp only [List.length_drop, List.length_take]; rfl)) ?_; (with_reducible refine (spec_l30Rd_pick.calls k g s0_0 t539 (t540.length : Int) t543 t544 w0 _ ?side1 ?side2 A6.out).mono ?_); (case side1 => repeat (first | (with_reducible first | exact HI0.out | apply IsS106.alloc | apply IsS106.drewN | apply IsS106.drew | apply IsS106.set_1) | exact HI0.out)); (case side2 => repeat (first | (with_reducible first | exact HB.out | apply below_alloc | apply pw_below_drewN | apply below_drew1 | refine below_set ?_ (IsS106.ge HI0.out)) | exact HB.out)); rintro e w52 ⟨rfl, hi, hb, hk⟩; refine ⟨_, rfl, ?_⟩; have n0_ := Aside0.mk (Kd.R_mono (Kd.R_keep (IsS106.apart (show IsS106 w0 _ g s0_0 t539 from by repeat (first | (with_reducible first | exact HI0.out | apply IsS106.alloc | apply IsS106.drewN | apply IsS106.drew | apply IsS106.set_1) | exact HI0.out)) (by (with_reducible repeat (first | apply Kd.R_alloc | apply Kd.R_drewN | apply Kd.R_drew)); exact HO538.out) (by decide)) hk (fun _ h => h.2)) (fun _ h => h.1)); have n1_ := Aside0.mk (Kd.S_mono (Kd.S_keep (IsS106.apartS (show IsS106 w0 _ g s0_0 t539 from by repeat (first | (with_reducible first | exact HI0.out | apply IsS106.alloc | apply IsS106.drewN | apply IsS106.drew | apply IsS106.set_1) | exact HI0.out)) (by (with_reducible repeat (first | apply Kd.S_alloc | apply Kd.S_drewN | apply Kd.S_drew)); exact HO542.out) (by decide)) hk (fun _ h => h.2)) (fun _ h => h.1)); have n2_ := Aside0.mk (KeepBut.trans (by repeat (first | (with_reducible first | exact HK.out | apply KeepBut.set_ | apply keep_drewN | apply keep_drew | apply keep_alloc) | exact HK.out)) hk (.inl rfl)); have n3_ := Aside0.mk (hb); have n4_ := Aside0.mk (hi); clear HO538; clear HO542; clear HK; clear HB; clear HI0; have HO538 := n0_; have HO542 := n1_; have HK := n2_; have HB := n3_; have HI0 := n4_; clear n0_ n1_ n2_ n3_ n4_; (try clear hb); (try clear hb2); (try clear hk); (try clear hi)) | ((with_reducible refine gate_callee (f := 81) rfl ?_); refine goesL_ (some 20) rfl rfl Try.func81 (by kernel_rfl) rfl #[.pointer (some ⟨g, 0, none⟩), .int .i64 14] rfl (by (try simp only [List.map_toArray, List.map_cons, List.map_nil]); first | done | rfl | (simp only [List.length_drop, List.length_take]; rfl)) ?_; (with_reducible refine (spec_l30Rd_pick.calls k g s0_0 t544 14 t545 t546 w0 _ ?side1 ?side2 A7.out).mono ?_); (case side1 => repeat (first | (with_reducible first | exact HI0.out | apply IsS106.alloc | apply IsS106.drewN | apply IsS106.drew | apply IsS106.set_1) | exact HI0.out)); (case side2 => repeat (first | (with_reducible first | exact HB.out | apply below_alloc | apply pw_below_drewN | apply below_drew1 | refine below_set ?_ (IsS106.ge HI0.out)) | exact HB.out)); rintro e w53 ⟨rfl, hi, hb, hk⟩; refine ⟨_, rfl, ?_⟩; have n0_ := Aside0.mk (Kd.R_mono (Kd.R_keep (IsS106.apart (show IsS106 w0 _ g s0_0 t544 from by repeat (first | (with_reducible first | exact HI0.out | apply IsS106.alloc | apply IsS106.drewN | apply IsS106.drew | apply IsS106.set_1) | exact HI0.out)) (by (with_reducible repeat (first | apply Kd.R_alloc | apply Kd.R_drewN | apply Kd.R_drew)); exact HO538.out) (by decide)) hk (fun _ h => h.2)) (fun _ h => h.1)); have n1_ := Aside0.mk (Kd.S_mono (Kd.S_keep (IsS106.apartS (show IsS106 w0 _ g s0_0 t544 from by repeat (first | (with_reducible first | exact HI0.out | apply IsS106.alloc | apply IsS106.drewN | apply IsS106.drew | apply IsS106.set_1) | exact HI0.out)) (by (with_reducible repeat (first | apply Kd.S_alloc | apply Kd.S_drewN | apply Kd.S_drew)); exact HO542.out) (by decide)) hk (fun _ h => h.2)) (fun _ h => h.1)); have n2_ := Aside0.mk (KeepBut.trans (by repeat (first | (with_reducible first | exact HK.out | apply KeepBut.set_ | apply keep_drewN | apply keep_drew | apply keep_alloc) | exact HK.out)) hk (.inl rfl)); have n3_ := Aside0.mk (hb); have n4_ := Aside0.mk (hi); clear HO538; clear HO542; clear HK; clear HB; clear HI0; have HO538 := n0_; have HO542 := n1_; have HK := n2_; have HB := n3_; have HI0 := n4_; clear n0_ n1_ n2_ n3_ n4_; (try clear hb); (try clear hb2); (try clear hk); (try clear hi)) | ((with_reducible refine gate_dst (N := 43) rfl ?_); refine Kd.R_lit Kd.string _ 9 ?hg (N := 43) ?hd (xs := ([] : List ByteArray)) (inner := []) (ok := fun _ => True) (okp := fun _ => True) ?hr ?hp (fun _ hk => hk) trivial (Below.refl _ _) (Nat.le_refl _) (by simp) ?_; (case hd => rfl); (case hg => rfl); (case hr => first | (go_simp; done) | (go_simp; rfl)); (case hp => exact (Reps.none _ _)); intro v560 w54 ho55 hb hg_ hnew_; clear hg_ hnew_; (first | rw [← Ny559.out] at ho55 | (simp only [Int.reduceToNat] at ho55; rw [← Ny559.out] at ho55)); have n0_ := Aside0.mk (Kd.R_elder' (by (with_reducible repeat (first | apply Kd.R_alloc | apply Kd.R_drewN | apply Kd.R_drew)); exact HO538.out) (Kd.R_base ho55) hb); have n1_ := Aside0.mk (Kd.S_elder' (by (with_reducible repeat (first | apply Kd.S_alloc | apply Kd.S_drewN | apply Kd.S_drew)); exact HO542.out) (Kd.R_base ho55) hb); have n2_ := Aside0.mk (Kd.R_lower (Kd.R_new' ho55 (Kd.R_lt (by (with_reducible repeat (first | apply Kd.R_alloc | apply Kd.R_drewN | apply Kd.R_drew)); exact HO538.out))) (keep_size (w := w) (g := g) (row := none) (by repeat (first | (with_reducible first | exact HK.out | apply KeepBut.set_ | apply keep_drewN | apply keep_drew | apply keep_alloc) | exact HK.out)))); have n3_ := Aside0.mk (IsS106.below (by repeat (first | (with_reducible first | exact HI0.out | apply IsS106.alloc | apply IsS106.drewN | apply IsS106.drew | apply IsS106.set_1) | exact HI0.out)) hb); have n4_ := Aside0.mk (KeepBut.trans (by repeat (first | (with_reducible first | exact HK.out | apply KeepBut.set_ | apply keep_drewN | apply keep_drew | apply keep_alloc) | exact HK.out)) (KeepBut.of_below hb g none) (.inl rfl)); have n5_ := Aside0.mk (below_step (by repeat (first | (with_reducible first | exact HB.out | apply below_alloc | apply pw_below_drewN | apply below_drew1 | refine below_set ?_ (IsS106.ge HI0.out)) | exact HB.out)) hb); clear HO538; clear HO542; clear HI0; clear HK; clear HB; have HO538 := n0_; have HO542 := n1_; have HO561 := n2_; have HI0 := n3_; have HK := n4_; have HB := n5_; clear n0_ n1_ n2_ n3_ n4_ n5_; clear hb ho55; have p562 : 0 ≤ (t543 : Int) := of_decide_eq_true (by assumption); have q562 : t543 < (t540.length : Int) := of_decide_eq_true (by assumption); obtain ⟨ad562, A562_2, c562_2, e562, hx562_0, hx562_1, hx562_2, hl562_2, hi562_2⟩ := at_T39 (Kd.S_reads' HO542.out).2.2 t543 p562 q562; cases e562; obtain ⟨ce562, hce562, hMe562, hcc562⟩ := Kd.S_get HO542.out z39 t543 p562 (by first | exact q562 | exact of_decide_eq_true (by assumption) | (have e_ := (Kd.S_reads' HO542.out).1; omega)); obtain ⟨ve562_2, rfl, ge562_2⟩ := k39_openM hMe562; have hv562_2 := hcc562 2 _ rfl; rw [add_field _ _ 2 (by omega)] at hv562_2; replace hv562_2 := Option.some.inj (hv562_2.symm.trans hx562_2); rw [hv562_2] at ge562_2; have HL562_2 := Aside0.mk (show Kd.R Kd.string 9 _ _ _ _ ((rd_T39 t540 t543).f2) from ge562_2); clear hv562_2 ge562_2; clear hcc562 hce562; have HR562_2 := Aside0.mk hi562_2; have HC562_2 := Aside0.mk hl562_2; clear hi562_2 hl562_2; replace p562 := eq_true p562; replace q562 := eq_true q562) | ((with_reducible refine gate_builtin (b := .append) (xs := #[.tmp 43, .tmp 48]) rfl ?_); at_builtin; refine Kd.R_append_rows Kd.string w.heap.size rfl (.tmp 43) (.tmp 48) 30 9 (.string ⟨#[]⟩) 16 rfl Try.underlying30 info9 rfl (by decide) (by omega) v560 y559 ((rd_T39 t540 t543).f2) _ _ _ (fun k_ => some k_ ≠ (.slice Ao49 t536.length co49 : Value).ownBlock) (fun _ => False) rfl rfl ?aO ?aR (fun _ _ h => h) (fun _ h => h.elim) ?aF (Below.refl _ _) ?aS ?aL ?_; (case aR => repeat (first | exact (by repeat (first | (with_reducible exact HR562_2.out) | (with_reducible refine Kd.C_alloc ?_ _) | (with_reducible refine Kd.C_drewN ?_ _) | (with_reducible refine Kd.C_drew ?_) | exact HR562_2.out)) | (with_reducible refine Kd.C_alloc ?_ _) | (with_reducible refine Kd.C_drewN ?_ _) | (with_reducible refine Kd.C_drew ?_))); (case aF => exact (fun k_ hk => Kd.fresh' (Kd.R_lt (by (with_reducible repeat (first | apply Kd.R_alloc | apply Kd.R_drewN | apply Kd.R_drew)); exact HO538.out)) k_ hk)); (case aO => exact (by (with_reducible repeat (first | apply Kd.R_alloc | apply Kd.R_drewN | apply Kd.R_drew)); exact Kd.R_mono HO561.out (fun _ hk => hk.2))); (case aS => exact (keep_size (w := w) (g := g) (row := none) (by repeat (first | (with_reducible first | exact HK.out | apply KeepBut.set_ | apply keep_drewN | apply keep_drew | apply keep_alloc) | exact HK.out)))); (case aL => have := LMc45.out; omega); intro v564 w56 ho hb hg hat; rw [← Ny563.out] at ho; have n0_ := Aside0.mk (IsS106.grown (by repeat (first | (with_reducible first | exact HI0.out | apply IsS106.alloc | apply IsS106.drewN | apply IsS106.drew | apply IsS106.set_1) | exact HI0.out)) hg (IsS106.own_ne HI0.out HO561.out (by decide))); have n1_ := Aside0.mk (Kd.R_after (ok := (fun _ => True)) (by (with_reducible repeat (first | apply Kd.R_alloc | apply Kd.R_drewN | apply Kd.R_drew)); exact HO538.out) hg hat); have n2_ := Aside0.mk (Kd.S_after (ok := (fun k_ => some k_ ≠ (.slice Ao49 t536.length co49 : Value).ownBlock)) (by (with_reducible repeat (first | apply Kd.S_alloc | apply Kd.S_drewN | apply Kd.S_drew)); exact Kd.S_mono HO542.out (fun _ hk => ⟨hk.1.2, hk.2⟩)) hg hat); have n3_ := Aside0.mk (Kd.R_after (ok := (fun k_ => some k_ ≠ (.slice Ao49 t536.length co49 : Value).ownBlock ∧ some k_ ≠ (.slice (some ad562) t540.length co51 : Value).ownBlock)) (by (with_reducible repeat (first | apply Kd.R_alloc | apply Kd.R_drewN | apply Kd.R_drew)); exact Kd.R_mono HL562_2.out (fun _ hk => ⟨⟨hk.1.1.2, hk.2⟩, hk.1.2⟩)) hg hat); have n4_ := Aside0.mk (below_weaken (by repeat (first | (with_reducible first | exact HB.out | apply below_alloc | apply pw_below_drewN | apply below_drew1 | refine below_set ?_ (IsS106.ge HI0.out)) | exact HB.out)) HL.out hb); have n5_ := Aside0.mk (KeepBut.trans (by repeat (first | (with_reducible first | exact HK.out | apply KeepBut.set_ | apply keep_drewN | apply keep_drew | apply keep_alloc) | exact HK.out)) (KeepBut.of_grown hg g) (Kd.R_base2 HO561.out)); have n6_ := Aside0.mk (ho); clear HI0; clear HO538; clear HO542; clear HL562_2; clear HB; clear HK; clear HO561; have HI0 := n0_; have HO538 := n1_; have HO542 := n2_; have HL562_2 := n3_; have HB := n4_; have HK := n5_; have HO565 := n6_; clear n0_ n1_ n2_ n3_ n4_ n5_ n6_; clear ho hb hg hat) | ((with_reducible refine gate_builtin (b := .append) (xs := #[.tmp 49, .tmp 50]) rfl ?_); at_builtin; refine Kd.R_append Kd.string w.heap.size rfl (.tmp 49) (.tmp 50) 30 9 (.string ⟨#[]⟩) 16 rfl Try.underlying30 info9 rfl (by decide) (by omega) v564 y563 (⟨#[122]⟩ : ByteArray) [.string (⟨#[122]⟩ : ByteArray)] (fun k_ => some k_ ≠ (.slice Ao49 t536.length co49 : Value).ownBlock) (fun _ => False) rfl rfl ?aP (fun _ hk => hk.elim) ?aF ?aO (Below.refl _ _) ?aS ?aL ?_; (case aP => exact rfl); (case aF => exact (fun k_ hk => Kd.fresh' (Kd.R_lt (by (with_reducible repeat (first | apply Kd.R_alloc | apply Kd.R_drewN | apply Kd.R_drew)); exact HO538.out)) k_ hk)); (case aO => exact (by (with_reducible repeat (first | apply Kd.R_alloc | apply Kd.R_drewN | apply Kd.R_drew)); exact HO565.out)); (case aS => exact (keep_size (w := w) (g := g) (row := none) (by repeat (first | (with_reducible first | exact HK.out | apply KeepBut.set_ | apply keep_drewN | apply keep_drew | apply keep_alloc) | exact HK.out)))); (case aL => have := LMc46.out; omega); intro v567 w57 ho hb hg hat; rw [← Ny566.out] at ho; have n0_ := Aside0.mk (IsS106.grown (by repeat (first | (with_reducible first | exact HI0.out | apply IsS106.alloc | apply IsS106.drewN | apply IsS106.drew | apply IsS106.set_1) | exact HI0.out)) hg (IsS106.own_ne HI0.out HO565.out (by decide))); have n1_ := Aside0.mk (Kd.R_after (ok := (fun _ => True)) (by (with_reducible repeat (first | apply Kd.R_alloc | apply Kd.R_drewN | apply Kd.R_drew)); exact HO538.out) hg hat); have n2_ := Aside0.mk (Kd.S_after (ok := (fun k_ => some k_ ≠ (.slice Ao49 t536.length co49 : Value).ownBlock)) (by (with_reducible repeat (first | apply Kd.S_alloc | apply Kd.S_drewN | apply Kd.S_drew)); exact HO542.out) hg hat); have n3_ := Aside0.mk (Kd.R_after (ok := (fun k_ => some k_ ≠ (.slice Ao49 t536.length co49 : Value).ownBlock ∧ some k_ ≠ (.slice (some ad562) t540.length co51 : Value).ownBlock)) (by (with_reducible repeat (first | apply Kd.R_alloc | apply Kd.R_drewN | apply Kd.R_drew)); exact HL562_2.out) hg hat); have n4_ := Aside0.mk (below_weaken (by repeat (first | (with_reducible first | exact HB.out | apply below_alloc | apply pw_below_drewN | apply below_drew1 | refine below_set ?_ (IsS106.ge HI0.out)) | exact HB.out)) HL.out hb); have n5_ := Aside0.mk (KeepBut.trans (by repeat (first | (with_reducible first | exact HK.out | apply KeepBut.set_ | apply keep_drewN | apply keep_drew | apply keep_alloc) | exact HK.out)) (KeepBut.of_grown hg g) (Kd.R_base2 HO565.out)); have n6_ := Aside0.mk (ho); clear HI0; clear HO538; clear HO542; clear HL562_2; clear HB; clear HK; clear HO565; have HI0 := n0_; have HO538 := n1_; have HO542 := n2_; have HL562_2 := n3_; have HB := n4_; have HK := n5_; have HO568 := n6_; clear n0_ n1_ n2_ n3_ n4_ n5_ n6_; clear ho hb hg hat; have p47 : 0 ≤ (t543 : Int) := of_decide_eq_true (by assumption); have q47 : (t543 : Int) < ((t540.length : Int) : Int) := of_decide_eq_true (by assumption); obtain ⟨go47, co47, eo47, gb47, gl47, cl47, HG47⟩ := Kd.S_form HO542.out (by omega); (first | cases eo47 | (injection eo47 with ea_ en_ ec_; (first | subst ea_ | (injection ea_ with ea_; subst ea_)); subst ec_; clear en_)); have GB47 := Aside0.mk gb47; have GG47 := Aside0.mk HG47; clear gb47 gl47 HG47; (first | simp only [add_plain] at hx562_0 | skip); (first | simp only [add_plain] at hx562_1 | skip); (first | simp only [add_plain] at hx562_2 | skip); obtain ⟨_, ce47, hcl47, hM47, hcc47, hfr47, _, _⟩ := Kd.S_elem HO542.out z39 (t543 : Int) p47 q47; obtain ⟨ve47_2, rfl, ge47_2⟩ := k39_openM hM47; have hx47_0 : w57.cell? ⟨go47, (t543 : Int).toNat * 3, none⟩ = some (.int .i64 ((rd_T39 t540 t543).f0)) := hcc47 0 _ rfl; have hx47_1 : w57.cell? ⟨go47, (t543 : Int).toNat * 3 + 1, none⟩ = some (.int .i64 ((rd_T39 t540 t543).f1)) := hcc47 1 _ rfl; have hx47_2 : w57.cell? ⟨go47, (t543 : Int).toNat * 3 + 2, none⟩ = some (ve47_2) := hcc47 2 _ rfl; have hf47_0 : w57.frozen? ⟨go47, (t543 : Int).toNat * 3, none⟩ = false := hfr47 0; have hf47_1 : w57.frozen? ⟨go47, (t543 : Int).toNat * 3 + 1, none⟩ = false := hfr47 1; have hf47_2 : w57.frozen? ⟨go47, (t543 : Int).toNat * 3 + 2, none⟩ = false := hfr47 2; clear hcl47 hcc47 hfr47 hM47; replace p47 := eq_true p47; replace q47 := eq_true q47; obtain ⟨Ao60, co60, eo60⟩ := Kd.R_slice HO568.out; subst eo60; have HX58 := Aside0.mk (show Kd.S k39 39 w57 w.heap.size (fun k_ => ((fun k_ => some k_ ≠ (.slice Ao49 t536.length co49 : Value).ownBlock)) k_ ∧ ¬ ((fun k_ => some k_ = (.slice Ao60 y566.length co60 : Value).ownBlock)) k_) (.slice (some ⟨go47, 0, none⟩) t540.length co51) t540 from (by (with_reducible repeat (first | apply Kd.S_alloc | apply Kd.S_drewN | apply Kd.S_drew)); exact Kd.S_mono HO542.out (fun k_ hk => ⟨hk.1, fun e_ => hk.2 e_⟩))); obtain ⟨oki58, ce58, hcl58, hM58, hcc58, hfr58, hoki58, hH58⟩ := Kd.S_elem HX58.out z39 (t543 : Int) (of_decide_eq_true (by assumption)) (by have h_ : (t543 : Int) < ((t540.length : Int) : Int) := of_decide_eq_true (by assumption); first | exact h_ | (have e_ := (Kd.S_reads' HO542.out).1; omega) | simpa using h_); obtain ⟨ve58_2, rfl, ge58_2⟩ := k39_openM hM58; have HP58 := Kd.S_seg hH58 (of_decide_eq_true (by assumption)) (by have h_ : (t543 : Int) < ((t540.length : Int) : Int) := of_decide_eq_true (by assumption); first | exact h_ | (have e_ := (Kd.S_reads' HO542.out).1; omega) | simpa using h_) (seg := [.slice Ao60 y566.length co60]) (j := 2) (show 3 ≤ 3 from by decide) (x' := (⟨(rd_T39 t540 t543).f0, (rd_T39 t540 t543).f1, y566⟩ : S39)) (k39_mkM _ _ _ (⟨(rd_T39 t540 t543).f0, (rd_T39 t540 t543).f1, y566⟩ : S39) (Kd.R_mono (Kd.R_tight rfl (Kd.R_mono (ok' := fun k_ => ((fun k_ => some k_ ≠ (.slice Ao49 t536.length co49 : Value).ownBlock)) k_ ∧ k_ ≠ go47) (Kd.R_apart' (HO568.out) (Kd.S_typed HO542.out) (by decide)) (fun k_ hk => ⟨hk.1, fun e_ => (hk.2) (by rw [e_]; rfl)⟩))) (fun _ h_ => Or.inr (h_)))) (fun _ hk => hk) (fun k_ hk_ => ((Kd.R_mono (ok' := fun k_ => ((fun k_ => some k_ ≠ (.slice Ao49 t536.length co49 : Value).ownBlock)) k_ ∧ k_ ≠ go47) (Kd.R_apart' (HO568.out) (Kd.S_typed HO542.out) (by decide)) (fun k_ hk => ⟨hk.1, fun e_ => (hk.2) (by rw [e_]; rfl)⟩))).1 k_ hk_.symm); have hx58_2 := hcc58 2 _ rfl; (try simp only [show (k39).sz = 3 from rfl, Nat.mul_one, Nat.add_zero] at hx58_2); have hf58_2 := hfr58 2; (try simp only [show (k39).sz = 3 from rfl, Nat.mul_one, Nat.add_zero] at hf58_2); clear hcl58 hcc58 hfr58 hM58 hoki58 hH58) | ((with_reducible refine gate_store (t := 30) (p := 53) rfl ?_); refine store_event (t := 30) (p := 53) (v := ?vo_w59) (w1 := (w57.setCell ⟨go47, (t543 : Int).toNat * 3 + 2, none⟩ (.slice Ao60 y566.length co60))) ?hg ?ho ?hn ?hr ?_; (case ho => rfl); (case hg => rfl); (case hn => rfl); (case hr => first | (go_simp; done) | (go_simp; rfl)); intro w59 hw; have hg : w57.grownBy w59 (some go47) := (by rw [hw]; exact HP58.2); have hp_ : Kd.S k39 39 w59 w.heap.size (fun k_ => some k_ ≠ (.slice Ao49 t536.length co49 : Value).ownBlock) (.slice (some ⟨go47, 0, none⟩) t540.length co51) y569 := (by rw [hw, Ny569.out]; exact HP58.1); clear HP58; have n0_ := Aside0.mk (IsS106.grown (by repeat (first | (with_reducible first | exact HI0.out | apply IsS106.alloc | apply IsS106.drewN | apply IsS106.drew | apply IsS106.set_1) | exact HI0.out)) hg (IsS106.own_neS HI0.out HO542.out (by decide))); have n1_ := Aside0.mk (Kd.R_over' (v := (.slice (some ⟨go47, 0, none⟩) t540.length co51)) (by (with_reducible repeat (first | apply Kd.R_alloc | apply Kd.R_drewN | apply Kd.R_drew)); exact HO538.out) (Kd.S_typed HO542.out) (by decide) hg); have n2_ := Aside0.mk (hp_); have n3_ := Aside0.mk (Kd.R_after (v := (.slice (some ⟨go47, 0, none⟩) t540.length co51)) (v1 := (.slice (some ⟨go47, 0, none⟩) t540.length co51)) (ok := (fun k_ => some k_ ≠ (.slice Ao49 t536.length co49 : Value).ownBlock ∧ some k_ ≠ (.slice Ao60 y566.length co60 : Value).ownBlock)) (by (with_reducible repeat (first | apply Kd.R_alloc | apply Kd.R_drewN | apply Kd.R_drew)); exact Kd.R_mono HL562_2.out (fun _ hk => ⟨⟨hk.1.1, hk.2⟩, hk.1.2⟩)) hg (.inl rfl)); have n4_ := Aside0.mk ((by rw [hw]; exact below_set (HB.out) (Nat.le_trans HL.out GB47.out) : Below w0.heap.size w0 w59)); have n5_ := Aside0.mk (KeepBut.trans (by repeat (first | (with_reducible first | exact HK.out | apply KeepBut.set_ | apply keep_drewN | apply keep_drew | apply keep_alloc) | exact HK.out)) (KeepBut.of_grown hg g) (Kd.S_base2 HO542.out)); clear HI0; clear HO538; clear HO542; clear HL562_2; clear HB; clear HK; clear HO568; have HI0 := n0_; have HO538 := n1_; have HO542 := n2_; have HL562_2 := n3_; have HB := n4_; have HK := n5_; clear n0_ n1_ n2_ n3_ n4_ n5_; clear hg hw hp_))
                 go_ret
                 exact ⟨_, by first | rfl | (simp [errW_none, errW_some] <;> rfl) | (simp [*, errW_none, errW_some] <;> rfl), by (with_reducible repeat (first | apply Kd.S_alloc | apply Kd.S_drewN | apply Kd.S_drew)); exact Kd.S_mono HO542.out (fun _ hk => trivial), by repeat (first | (with_reducible first | exact HI0.out | apply IsS106.alloc | apply IsS106.drewN | apply IsS106.drew | apply IsS106.set_1) | exact HI0.out), by repeat (first | (with_reducible first | exact HB.out | apply below_alloc | apply pw_below_drewN | apply below_drew1 | refine below_set ?_ (IsS106.ge HI0.out)) | exact HB.out), by repeat (first | (with_reducible first | exact HK.out | apply KeepBut.set_ | apply keep_drewN | apply keep_drew | apply keep_alloc) | exact HK.out)⟩
               · rw [if_neg c46] at H
                 exact absurd H (by simp)
             · rw [if_neg c45] at H
               exact absurd H (by simp)
           · rw [if_neg c44] at H
             exact absurd H (by simp)
         · rw [if_neg c43] at H
           exact absurd H (by simp)
       · rw [if_neg c42] at H
         have c42b0 : (t545 == 2) = false := beq_eq_false_iff_ne.mpr c42
         have c42b1 : (t545 != 2) = true := bne_iff_ne.mpr c42
         simp only [Option.some.injEq, Prod.mk.injEq] at H
         obtain ⟨rfl, rfl⟩ := H
         go_enter Try.func80, Try.ntmps80
         go_wp2_with (first | ((with_reducible refine gate_callee (f := 82) rfl ?_); refine goesL_ (some 10) rfl rfl Try.func82 (by kernel_rfl) rfl #[.pointer (some ⟨g, 0, none⟩), .slice A1 l1.length c1] rfl (by (try simp only [List.map_toArray, List.map_cons, List.map_nil]); first | done | rfl | (simp only [List.length_drop, List.length_take]; rfl)) ?_; (with_reducible refine (spec_l30Turn.calls k g s0_0 s0_1 _ _ l1 t536 t539 w0 _ ?side1 ?side2 ?side3 ?side4 ?side5 A3.out).mono ?_); (case side1 => repeat (first | (with_reducible first | exact HI0.out | apply IsS106.alloc | apply IsS106.drewN | apply IsS106.drew | apply IsS106.set_1) | exact HI0.out)); (case side2 => repeat (first | (with_reducible first | exact HB.out | apply below_alloc | apply pw_below_drewN | apply below_drew1 | refine below_set ?_ (IsS106.ge HI0.out)) | exact HB.out)); (case side3 => exact Kd.C_keep (⟨#[]⟩ : ByteArray) HR1.out (by repeat (first | (with_reducible first | exact HK.out | apply KeepBut.set_ | apply keep_drewN | apply keep_drew | apply keep_alloc) | exact HK.out)) hf1); (case side4 => exact HC1.out); (case side5 => exact hf1); rintro e w61 ⟨v537, rfl, ho0, hi, hb, hk⟩; refine ⟨_, rfl, ?_⟩; have n0_ := Aside0.mk (Kd.R_lower ho0 (keep_size (w := w) (g := g) (row := none) (by repeat (first | (with_reducible first | exact HK.out | apply KeepBut.set_ | apply keep_drewN | apply keep_drew | apply keep_alloc) | exact HK.out)))); have n1_ := Aside0.mk (KeepBut.trans (by repeat (first | (with_reducible first | exact HK.out | apply KeepBut.set_ | apply keep_drewN | apply keep_drew | apply keep_alloc) | exact HK.out)) hk (.inl rfl)); have n2_ := Aside0.mk (hb); have n3_ := Aside0.mk (hi); clear HK; clear HB; clear HI0; have HO538 := n0_; have HK := n1_; have HB := n2_; have HI0 := n3_; clear n0_ n1_ n2_ n3_; (try clear hb); (try clear hb2); (try clear hk); (try clear hi); (try clear ho0); obtain ⟨Ao62, co62, eo62⟩ := Kd.R_slice HO538.out; subst eo62) | ((with_reducible refine gate_callee (f := 23) rfl ?_); refine goesL_ (some 11) rfl rfl Try.func23 (by kernel_rfl) rfl #[.slice A1 l1.length c1, .slice Ao62 t536.length co62] rfl (by (try simp only [List.map_toArray, List.map_cons, List.map_nil]); first | done | rfl | (simp only [List.length_drop, List.length_take]; rfl)) ?_; (with_reducible refine (spec_DeltaOf.calls k _ _ l1 _ _ t536 t540 _ ?side1 ?side2 ?side3 ?side4 A4.out).mono ?_); (case side1 => exact Kd.C_keep (⟨#[]⟩ : ByteArray) HR1.out (by repeat (first | (with_reducible first | exact HK.out | apply KeepBut.set_ | apply keep_drewN | apply keep_drew | apply keep_alloc) | exact HK.out)) hf1); (case side2 => exact HC1.out); (case side3 => repeat (first | exact (Kd.R_reads' HO538.out).2.2 | (with_reducible refine Kd.C_alloc ?_ _) | (with_reducible refine Kd.C_drewN ?_ _) | (with_reducible refine Kd.C_drew ?_))); (case side4 => exact (Kd.R_reads' HO538.out).2.1); rintro e w63 ⟨v541, rfl, ho0, hb⟩; refine ⟨_, rfl, ?_⟩; have n0_ := Aside0.mk (Kd.R_below (by (with_reducible repeat (first | apply Kd.R_alloc | apply Kd.R_drewN | apply Kd.R_drew)); exact HO538.out) hb); have n1_ := Aside0.mk (Kd.S_lower (Kd.S_new' ho0 (Kd.R_lt (by (with_reducible repeat (first | apply Kd.R_alloc | apply Kd.R_drewN | apply Kd.R_drew)); exact HO538.out))) (keep_size (w := w) (g := g) (row := none) (by repeat (first | (with_reducible first | exact HK.out | apply KeepBut.set_ | apply keep_drewN | apply keep_drew | apply keep_alloc) | exact HK.out)))); have n2_ := Aside0.mk (IsS106.below (by repeat (first | (with_reducible first | exact HI0.out | apply IsS106.alloc | apply IsS106.drewN | apply IsS106.drew | apply IsS106.set_1) | exact HI0.out)) hb); have n3_ := Aside0.mk (KeepBut.trans (by repeat (first | (with_reducible first | exact HK.out | apply KeepBut.set_ | apply keep_drewN | apply keep_drew | apply keep_alloc) | exact HK.out)) (KeepBut.of_below hb g none) (.inl rfl)); have n4_ := Aside0.mk (below_step (by repeat (first | (with_reducible first | exact HB.out | apply below_alloc | apply pw_below_drewN | apply below_drew1 | refine below_set ?_ (IsS106.ge HI0.out)) | exact HB.out)) hb); clear HO538; clear HI0; clear HK; clear HB; have HO538 := n0_; have HO542 := n1_; have HI0 := n2_; have HK := n3_; have HB := n4_; clear n0_ n1_ n2_ n3_ n4_; (try clear hb); (try clear hb2); (try clear hk); (try clear hi); (try clear ho0); obtain ⟨Ao64, co64, eo64⟩ := Kd.S_slice HO542.out; subst eo64) | ((with_reducible refine gate_callee (f := 81) rfl ?_); refine goesL_ (some 18) rfl rfl Try.func81 (by kernel_rfl) rfl #[.pointer (some ⟨g, 0, none⟩), .int .i64 (t540.length : Int)] rfl (by (try simp only [List.map_toArray, List.map_cons, List.map_nil]); first | done | rfl | (simp only [List.length_drop, List.length_take]; rfl)) ?_; (with_reducible refine (spec_l30Rd_pick.calls k g s0_0 t539 (t540.length : Int) t543 t544 w0 _ ?side1 ?side2 A6.out).mono ?_); (case side1 => repeat (first | (with_reducible first | exact HI0.out | apply IsS106.alloc | apply IsS106.drewN | apply IsS106.drew | apply IsS106.set_1) | exact HI0.out)); (case side2 => repeat (first | (with_reducible first | exact HB.out | apply below_alloc | apply pw_below_drewN | apply below_drew1 | refine below_set ?_ (IsS106.ge HI0.out)) | exact HB.out)); rintro e w65 ⟨rfl, hi, hb, hk⟩; refine ⟨_, rfl, ?_⟩; have n0_ := Aside0.mk (Kd.R_mono (Kd.R_keep (IsS106.apart (show IsS106 w0 _ g s0_0 t539 from by repeat (first | (with_reducible first | exact HI0.out | apply IsS106.alloc | apply IsS106.drewN | apply IsS106.drew | apply IsS106.set_1) | exact HI0.out)) (by (with_reducible repeat (first | apply Kd.R_alloc | apply Kd.R_drewN | apply Kd.R_drew)); exact HO538.out) (by decide)) hk (fun _ h => h.2)) (fun _ h => h.1)); have n1_ := Aside0.mk (Kd.S_mono (Kd.S_keep (IsS106.apartS (show IsS106 w0 _ g s0_0 t539 from by repeat (first | (with_reducible first | exact HI0.out | apply IsS106.alloc | apply IsS106.drewN | apply IsS106.drew | apply IsS106.set_1) | exact HI0.out)) (by (with_reducible repeat (first | apply Kd.S_alloc | apply Kd.S_drewN | apply Kd.S_drew)); exact HO542.out) (by decide)) hk (fun _ h => h.2)) (fun _ h => h.1)); have n2_ := Aside0.mk (KeepBut.trans (by repeat (first | (with_reducible first | exact HK.out | apply KeepBut.set_ | apply keep_drewN | apply keep_drew | apply keep_alloc) | exact HK.out)) hk (.inl rfl)); have n3_ := Aside0.mk (hb); have n4_ := Aside0.mk (hi); clear HO538; clear HO542; clear HK; clear HB; clear HI0; have HO538 := n0_; have HO542 := n1_; have HK := n2_; have HB := n3_; have HI0 := n4_; clear n0_ n1_ n2_ n3_ n4_; (try clear hb); (try clear hb2); (try clear hk); (try clear hi)) | ((with_reducible refine gate_callee (f := 81) rfl ?_); refine goesL_ (some 20) rfl rfl Try.func81 (by kernel_rfl) rfl #[.pointer (some ⟨g, 0, none⟩), .int .i64 14] rfl (by (try simp only [List.map_toArray, List.map_cons, List.map_nil]); first | done | rfl | (simp only [List.length_drop, List.length_take]; rfl)) ?_; (with_reducible refine (spec_l30Rd_pick.calls k g s0_0 t544 14 t545 t546 w0 _ ?side1 ?side2 A7.out).mono ?_); (case side1 => repeat (first | (with_reducible first | exact HI0.out | apply IsS106.alloc | apply IsS106.drewN | apply IsS106.drew | apply IsS106.set_1) | exact HI0.out)); (case side2 => repeat (first | (with_reducible first | exact HB.out | apply below_alloc | apply pw_below_drewN | apply below_drew1 | refine below_set ?_ (IsS106.ge HI0.out)) | exact HB.out)); rintro e w66 ⟨rfl, hi, hb, hk⟩; refine ⟨_, rfl, ?_⟩; have n0_ := Aside0.mk (Kd.R_mono (Kd.R_keep (IsS106.apart (show IsS106 w0 _ g s0_0 t544 from by repeat (first | (with_reducible first | exact HI0.out | apply IsS106.alloc | apply IsS106.drewN | apply IsS106.drew | apply IsS106.set_1) | exact HI0.out)) (by (with_reducible repeat (first | apply Kd.R_alloc | apply Kd.R_drewN | apply Kd.R_drew)); exact HO538.out) (by decide)) hk (fun _ h => h.2)) (fun _ h => h.1)); have n1_ := Aside0.mk (Kd.S_mono (Kd.S_keep (IsS106.apartS (show IsS106 w0 _ g s0_0 t544 from by repeat (first | (with_reducible first | exact HI0.out | apply IsS106.alloc | apply IsS106.drewN | apply IsS106.drew | apply IsS106.set_1) | exact HI0.out)) (by (with_reducible repeat (first | apply Kd.S_alloc | apply Kd.S_drewN | apply Kd.S_drew)); exact HO542.out) (by decide)) hk (fun _ h => h.2)) (fun _ h => h.1)); have n2_ := Aside0.mk (KeepBut.trans (by repeat (first | (with_reducible first | exact HK.out | apply KeepBut.set_ | apply keep_drewN | apply keep_drew | apply keep_alloc) | exact HK.out)) hk (.inl rfl)); have n3_ := Aside0.mk (hb); have n4_ := Aside0.mk (hi); clear HO538; clear HO542; clear HK; clear HB; clear HI0; have HO538 := n0_; have HO542 := n1_; have HK := n2_; have HB := n3_; have HI0 := n4_; clear n0_ n1_ n2_ n3_ n4_; (try clear hb); (try clear hb2); (try clear hk); (try clear hi)))
         go_ret
         exact ⟨_, by first | rfl | (simp [errW_none, errW_some] <;> rfl) | (simp [*, errW_none, errW_some] <;> rfl), by (with_reducible repeat (first | apply Kd.S_alloc | apply Kd.S_drewN | apply Kd.S_drew)); exact Kd.S_mono HO542.out (fun _ hk => trivial), by repeat (first | (with_reducible first | exact HI0.out | apply IsS106.alloc | apply IsS106.drewN | apply IsS106.drew | apply IsS106.set_1) | exact HI0.out), by repeat (first | (with_reducible first | exact HB.out | apply below_alloc | apply pw_below_drewN | apply below_drew1 | refine below_set ?_ (IsS106.ge HI0.out)) | exact HB.out), by repeat (first | (with_reducible first | exact HK.out | apply KeepBut.set_ | apply keep_drewN | apply keep_drew | apply keep_alloc) | exact HK.out)⟩
 · rw [if_neg c5] at H
   have c5b0 : decide (0 < (t540.length : Int)) = false := decide_eq_false c5
   have c5b1 : decide (0 < t540.length) = false := decide_eq_false (by omega)
   clear c5
   simp only [Option.some.injEq, Prod.mk.injEq] at H
   obtain ⟨rfl, rfl⟩ := H
   go_enter Try.func80, Try.ntmps80
   go_wp2_with (first | ((with_reducible refine gate_callee (f := 82) rfl ?_); refine goesL_ (some 10) rfl rfl Try.func82 (by kernel_rfl) rfl #[.pointer (some ⟨g, 0, none⟩), .slice A1 l1.length c1] rfl (by (try simp only [List.map_toArray, List.map_cons, List.map_nil]); first | done | rfl | (simp only [List.length_drop, List.length_take]; rfl)) ?_; (with_reducible refine (spec_l30Turn.calls k g s0_0 s0_1 _ _ l1 t536 t539 w0 _ ?side1 ?side2 ?side3 ?side4 ?side5 A3.out).mono ?_); (case side1 => repeat (first | (with_reducible first | exact HI0.out | apply IsS106.alloc | apply IsS106.drewN | apply IsS106.drew | apply IsS106.set_1) | exact HI0.out)); (case side2 => repeat (first | (with_reducible first | exact HB.out | apply below_alloc | apply pw_below_drewN | apply below_drew1 | refine below_set ?_ (IsS106.ge HI0.out)) | exact HB.out)); (case side3 => exact Kd.C_keep (⟨#[]⟩ : ByteArray) HR1.out (by repeat (first | (with_reducible first | exact HK.out | apply KeepBut.set_ | apply keep_drewN | apply keep_drew | apply keep_alloc) | exact HK.out)) hf1); (case side4 => exact HC1.out); (case side5 => exact hf1); rintro e w67 ⟨v537, rfl, ho0, hi, hb, hk⟩; refine ⟨_, rfl, ?_⟩; have n0_ := Aside0.mk (Kd.R_lower ho0 (keep_size (w := w) (g := g) (row := none) (by repeat (first | (with_reducible first | exact HK.out | apply KeepBut.set_ | apply keep_drewN | apply keep_drew | apply keep_alloc) | exact HK.out)))); have n1_ := Aside0.mk (KeepBut.trans (by repeat (first | (with_reducible first | exact HK.out | apply KeepBut.set_ | apply keep_drewN | apply keep_drew | apply keep_alloc) | exact HK.out)) hk (.inl rfl)); have n2_ := Aside0.mk (hb); have n3_ := Aside0.mk (hi); clear HK; clear HB; clear HI0; have HO538 := n0_; have HK := n1_; have HB := n2_; have HI0 := n3_; clear n0_ n1_ n2_ n3_; (try clear hb); (try clear hb2); (try clear hk); (try clear hi); (try clear ho0); obtain ⟨Ao68, co68, eo68⟩ := Kd.R_slice HO538.out; subst eo68) | ((with_reducible refine gate_callee (f := 23) rfl ?_); refine goesL_ (some 11) rfl rfl Try.func23 (by kernel_rfl) rfl #[.slice A1 l1.length c1, .slice Ao68 t536.length co68] rfl (by (try simp only [List.map_toArray, List.map_cons, List.map_nil]); first | done | rfl | (simp only [List.length_drop, List.length_take]; rfl)) ?_; (with_reducible refine (spec_DeltaOf.calls k _ _ l1 _ _ t536 t540 _ ?side1 ?side2 ?side3 ?side4 A4.out).mono ?_); (case side1 => exact Kd.C_keep (⟨#[]⟩ : ByteArray) HR1.out (by repeat (first | (with_reducible first | exact HK.out | apply KeepBut.set_ | apply keep_drewN | apply keep_drew | apply keep_alloc) | exact HK.out)) hf1); (case side2 => exact HC1.out); (case side3 => repeat (first | exact (Kd.R_reads' HO538.out).2.2 | (with_reducible refine Kd.C_alloc ?_ _) | (with_reducible refine Kd.C_drewN ?_ _) | (with_reducible refine Kd.C_drew ?_))); (case side4 => exact (Kd.R_reads' HO538.out).2.1); rintro e w69 ⟨v541, rfl, ho0, hb⟩; refine ⟨_, rfl, ?_⟩; have n0_ := Aside0.mk (Kd.R_below (by (with_reducible repeat (first | apply Kd.R_alloc | apply Kd.R_drewN | apply Kd.R_drew)); exact HO538.out) hb); have n1_ := Aside0.mk (Kd.S_lower (Kd.S_new' ho0 (Kd.R_lt (by (with_reducible repeat (first | apply Kd.R_alloc | apply Kd.R_drewN | apply Kd.R_drew)); exact HO538.out))) (keep_size (w := w) (g := g) (row := none) (by repeat (first | (with_reducible first | exact HK.out | apply KeepBut.set_ | apply keep_drewN | apply keep_drew | apply keep_alloc) | exact HK.out)))); have n2_ := Aside0.mk (IsS106.below (by repeat (first | (with_reducible first | exact HI0.out | apply IsS106.alloc | apply IsS106.drewN | apply IsS106.drew | apply IsS106.set_1) | exact HI0.out)) hb); have n3_ := Aside0.mk (KeepBut.trans (by repeat (first | (with_reducible first | exact HK.out | apply KeepBut.set_ | apply keep_drewN | apply keep_drew | apply keep_alloc) | exact HK.out)) (KeepBut.of_below hb g none) (.inl rfl)); have n4_ := Aside0.mk (below_step (by repeat (first | (with_reducible first | exact HB.out | apply below_alloc | apply pw_below_drewN | apply below_drew1 | refine below_set ?_ (IsS106.ge HI0.out)) | exact HB.out)) hb); clear HO538; clear HI0; clear HK; clear HB; have HO538 := n0_; have HO542 := n1_; have HI0 := n2_; have HK := n3_; have HB := n4_; clear n0_ n1_ n2_ n3_ n4_; (try clear hb); (try clear hb2); (try clear hk); (try clear hi); (try clear ho0); obtain ⟨Ao70, co70, eo70⟩ := Kd.S_slice HO542.out; subst eo70))
   go_ret
   exact ⟨_, by first | rfl | (simp [errW_none, errW_some] <;> rfl) | (simp [*, errW_none, errW_some] <;> rfl), by (with_reducible repeat (first | apply Kd.S_alloc | apply Kd.S_drewN | apply Kd.S_drew)); exact Kd.S_mono HO542.out (fun _ hk => trivial), by repeat (first | (with_reducible first | exact HI0.out | apply IsS106.alloc | apply IsS106.drewN | apply IsS106.drew | apply IsS106.set_1) | exact HI0.out), by repeat (first | (with_reducible first | exact HB.out | apply below_alloc | apply pw_below_drewN | apply below_drew1 | refine below_set ?_ (IsS106.ge HI0.out)) | exact HB.out), by repeat (first | (with_reducible first | exact HK.out | apply KeepBut.set_ | apply keep_drewN | apply keep_drew | apply keep_alloc) | exact HK.out)⟩
end Go.Proofs.Ytfnhjaiioojbkaa.Q
end
section
namespace Go.Proofs.Ytfnhjaiioojbkaa.Q
open Go.RowKit Go.Proofs.YtfnhjaiioojbkaaW.PrintWords Go.Proofs.YtfnhjaiioojbkaaW.PrintLast Go.Proofs.YtfnhjaiioojbkaaW.PrintMore
attribute [local go_sem] max2_int min2_int max_two min_two max_three min_three max_four min_four   -- for this text's walks alone
set_option linter.unusedVariables false
set_option linter.unusedSimpArgs false
def spec_DrawDeltaDo.f (k : Nat) (l0 : List Int) : Option (List ByteArray × (List (S39))) := (spec_l30Open.f l0).bind fun bt570 => ((spec_l30AnyText.f k bt570.1 bt570.2).bind fun bt573 => ((spec_l30Delta.f k bt570.1 bt573.2 bt573.1).bind fun bt577 => ((spec_l30Rd_pick.f k bt570.1 bt577.2 6).bind fun bt581 => (if bt581.1 = 0 then ((spec_l30Turn.f k bt570.1 bt581.2 bt573.1).bind fun bt583 => (some (bt583.1, bt577.1))) else (some (bt573.1, bt577.1))))))
theorem spec_DrawDeltaDo.mono : ∀ a0 k, LeO (spec_DrawDeltaDo.f k a0) (spec_DrawDeltaDo.f (k + 1) a0) := by
 intro a0 k
 unfold spec_DrawDeltaDo.f
 repeat' first
  | (with_reducible exact spec_l30AnyText.mono _ _ _)
  | (with_reducible exact spec_l30Delta.mono _ _ _ _)
  | (with_reducible exact spec_l30Rd_pick.mono _ _ _ _)
  | (with_reducible exact spec_l30Turn.mono _ _ _ _)
  | (with_reducible exact LeO.refl _)
  | (with_reducible exact LeO.none _)
  | (with_reducible refine LeO.ite ?_ ?_)
  | (with_reducible refine LeO.bind ?_ (fun _ => ?_))
  | exact spec_l30AnyText.mono _ _ _
  | exact spec_l30Delta.mono _ _ _ _
  | exact spec_l30Rd_pick.mono _ _ _ _
  | exact spec_l30Turn.mono _ _ _ _
  | exact LeO.none _
  | refine LeO.ite ?_ ?_
  | refine LeO.bind ?_ (fun _ => ?_)
set_option maxHeartbeats 8000000 in
set_option maxRecDepth 100000 in
theorem spec_DrawDeltaDo.calls (k : Nat) (A0 : Option Addr) (c0 : Nat) (l0 : List Int) (r1 : List ByteArray) (r2 : List (S39)) (w : World) (hr0 : Kd.C (Kd.int .u8) w A0 l0.length l0) (hc0 : l0.length ≤ c0) (h : spec_DrawDeltaDo.f k l0 = some (r1, r2)) :
 Calls Try.prog 34 #[.slice A0 l0.length c0] w fun e w' => ∃ v0_ v1_ : Value, e = .returned (.tuple #[v0_, v1_]) ∧ Kd.R Kd.string 9 w' w.heap.size (fun _ => True) v0_ r1 ∧ Kd.S k39 39 w' w.heap.size (fun k_ => some k_ ≠ (v0_ : Value).ownBlock) v1_ r2 ∧ Below w.heap.size w w' := by
 have HR0 := Aside0.mk hr0
 have HC0 := Aside0.mk hc0
 clear hr0 hc0
 have HB := Aside0.mk (Below.refl w.heap.size w)
 have H : ((spec_l30Open.f l0).bind fun bt570 => ((spec_l30AnyText.f k bt570.1 bt570.2).bind fun bt573 => ((spec_l30Delta.f k bt570.1 bt573.2 bt573.1).bind fun bt577 => ((spec_l30Rd_pick.f k bt570.1 bt577.2 6).bind fun bt581 => (if bt581.1 = 0 then ((spec_l30Turn.f k bt570.1 bt581.2 bt573.1).bind fun bt583 => (some (bt583.1, bt577.1))) else (some (bt573.1, bt577.1))))))) = some (r1, r2) := h
 clear h
 replace H := Option.bind_eq_some_iff.mp H
 obtain ⟨⟨t570, t571⟩, A20, H⟩ := H
 replace H : ((spec_l30AnyText.f k t570 t571).bind fun bt573 => ((spec_l30Delta.f k t570 bt573.2 bt573.1).bind fun bt577 => ((spec_l30Rd_pick.f k t570 bt577.2 6).bind fun bt581 => (if bt581.1 = 0 then ((spec_l30Turn.f k t570 bt581.2 bt573.1).bind fun bt583 => (some (bt583.1, bt577.1))) else (some (bt573.1, bt577.1)))))) = some (r1, r2) := H
 have A2 := Aside0.mk A20
 clear A20
 replace H := Option.bind_eq_some_iff.mp H
 obtain ⟨⟨t573, t576⟩, A30, H⟩ := H
 replace H : ((spec_l30Delta.f k t570 t576 t573).bind fun bt577 => ((spec_l30Rd_pick.f k t570 bt577.2 6).bind fun bt581 => (if bt581.1 = 0 then ((spec_l30Turn.f k t570 bt581.2 t573).bind fun bt583 => (some (bt583.1, bt577.1))) else (some (t573, bt577.1))))) = some (r1, r2) := H
 have A3 := Aside0.mk A30
 clear A30
 replace H := Option.bind_eq_some_iff.mp H
 obtain ⟨⟨t577, t580⟩, A40, H⟩ := H
 replace H : ((spec_l30Rd_pick.f k t570 t580 6).bind fun bt581 => (if bt581.1 = 0 then ((spec_l30Turn.f k t570 bt581.2 t573).bind fun bt583 => (some (bt583.1, t577))) else (some (t573, t577)))) = some (r1, r2) := H
 have A4 := Aside0.mk A40
 clear A40
 replace H := Option.bind_eq_some_iff.mp H
 obtain ⟨⟨t581, t582⟩, A50, H⟩ := H
 replace H : (if t581 = 0 then ((spec_l30Turn.f k t570 t582 t573).bind fun bt583 => (some (bt583.1, t577))) else (some (t573, t577))) = some (r1, r2) := H
 have A5 := Aside0.mk A50
 clear A50
 by_cases c6 : t581 = 0
 · rw [if_pos c6] at H
   have c6b0 : (t581 == 0) = true := beq_iff_eq.mpr c6
   have c6b1 : (t581 != 0) = false := bne_eq_false_iff_eq.mpr c6
   clear c6
   replace H := Option.bind_eq_some_iff.mp H
   obtain ⟨⟨t583, t586⟩, A70, H⟩ := H
   replace H : (some (t583, t577)) = some (r1, r2) := H
   have A7 := Aside0.mk A70
   clear A70
   simp only [Option.some.injEq, Prod.mk.injEq] at H
   obtain ⟨rfl, rfl⟩ := H
   go_enter Try.func34, Try.ntmps34
   go_wp2_with (first | ((with_reducible refine gate_callee (f := 78) rfl ?_); refine goesL_ (some 8) rfl rfl Try.func78 (by kernel_rfl) rfl #[.slice A0 l0.length c0] rfl (by (try simp only [List.map_toArray, List.map_cons, List.map_nil]); first | done | rfl | (simp only [List.length_drop, List.length_take]; rfl)) ?_; (with_reducible refine (spec_l30Open.calls _ _ l0 t570 t571 w _ ?side1 ?side2 ?side3 A2.out).mono ?_); (case side1 => repeat (first | (with_reducible first | exact HB.out | apply below_alloc | apply pw_below_drewN | apply below_drew1) | exact HB.out)); (case side2 => exact HR0.out); (case side3 => exact HC0.out); rintro e w8 ⟨g572, rfl, hi, hb, hb2⟩; refine ⟨_, rfl, ?_⟩; have n0_ := Aside0.mk (hb); have n1_ := Aside0.mk (hi); clear HB; have HB := n0_; have HI572 := n1_; clear n0_ n1_; (try clear hb); (try clear hb2); (try clear hk); (try clear hi)) | ((with_reducible refine gate_callee (f := 79) rfl ?_); refine goesL_ (some 10) rfl rfl Try.func79 (by kernel_rfl) rfl #[.pointer (some ⟨g572, 0, none⟩)] rfl (by (try simp only [List.map_toArray, List.map_cons, List.map_nil]); first | done | rfl | (simp only [List.length_drop, List.length_take]; rfl)) ?_; (with_reducible refine (spec_l30AnyText.calls k g572 t570 t571 t573 t576 w _ ?side1 ?side2 A3.out).mono ?_); (case side1 => repeat (first | (with_reducible first | exact HI572.out | apply IsS106.alloc | apply IsS106.drewN | apply IsS106.drew | apply IsS106.set_1) | exact HI572.out)); (case side2 => repeat (first | (with_reducible first | exact HB.out | apply below_alloc | apply pw_below_drewN | apply below_drew1 | refine below_set ?_ (IsS106.ge HI572.out)) | exact HB.out)); rintro e w9 ⟨v574, rfl, ho0, hi, hb, hk⟩; refine ⟨_, rfl, ?_⟩; have n0_ := Aside0.mk (Kd.R_lower ho0 (below_size (by repeat (first | (with_reducible first | exact HB.out | apply below_alloc | apply pw_below_drewN | apply below_drew1 | refine below_set ?_ (IsS106.ge HI572.out)) | exact HB.out)))); have n1_ := Aside0.mk (hb); have n2_ := Aside0.mk (hi); clear HB; clear HI572; have HO575 := n0_; have HB := n1_; have HI572 := n2_; clear n0_ n1_ n2_; (try clear hb); (try clear hb2); (try clear hk); (try clear hi); (try clear ho0); obtain ⟨Ao10, co10, eo10⟩ := Kd.R_slice HO575.out; subst eo10) | ((with_reducible refine gate_callee (f := 80) rfl ?_); refine goesL_ (some 13) rfl rfl Try.func80 (by kernel_rfl) rfl #[.pointer (some ⟨g572, 0, none⟩), .slice Ao10 t573.length co10] rfl (by (try simp only [List.map_toArray, List.map_cons, List.map_nil]); first | done | rfl | (simp only [List.length_drop, List.length_take]; rfl)) ?_; (with_reducible refine (spec_l30Delta.calls k g572 t570 t576 _ _ t573 t577 t580 w _ ?side1 ?side2 ?side3 ?side4 ?side5 A4.out).mono ?_); (case side1 => repeat (first | (with_reducible first | exact HI572.out | apply IsS106.alloc | apply IsS106.drewN | apply IsS106.drew | apply IsS106.set_1) | exact HI572.out)); (case side2 => repeat (first | (with_reducible first | exact HB.out | apply below_alloc | apply pw_below_drewN | apply below_drew1 | refine below_set ?_ (IsS106.ge HI572.out)) | exact HB.out)); (case side3 => repeat (first | exact (Kd.R_reads' HO575.out).2.2 | (with_reducible refine Kd.C_alloc ?_ _) | (with_reducible refine Kd.C_drewN ?_ _) | (with_reducible refine Kd.C_drew ?_))); (case side4 => exact (Kd.R_reads' HO575.out).2.1); (case side5 => exact far_slice (IsS106.own_ne HI572.out HO575.out (by decide))); rintro e w11 ⟨v578, rfl, ho0, hi, hb, hk⟩; refine ⟨_, rfl, ?_⟩; have n0_ := Aside0.mk (Kd.R_mono (Kd.R_keep (IsS106.apart (show IsS106 w _ g572 t570 t576 from by repeat (first | (with_reducible first | exact HI572.out | apply IsS106.alloc | apply IsS106.drewN | apply IsS106.drew | apply IsS106.set_1) | exact HI572.out)) (by (with_reducible repeat (first | apply Kd.R_alloc | apply Kd.R_drewN | apply Kd.R_drew)); exact HO575.out) (by decide)) hk (fun _ h => h.2)) (fun _ h => h.1)); have n1_ := Aside0.mk (Kd.S_lower (Kd.S_new' ho0 (Kd.R_lt (by (with_reducible repeat (first | apply Kd.R_alloc | apply Kd.R_drewN | apply Kd.R_drew)); exact HO575.out))) (below_size (by repeat (first | (with_reducible first | exact HB.out | apply below_alloc | apply pw_below_drewN | apply below_drew1 | refine below_set ?_ (IsS106.ge HI572.out)) | exact HB.out)))); have n2_ := Aside0.mk (hb); have n3_ := Aside0.mk (hi); clear HO575; clear HB; clear HI572; have HO575 := n0_; have HO579 := n1_; have HB := n2_; have HI572 := n3_; clear n0_ n1_ n2_ n3_; (try clear hb); (try clear hb2); (try clear hk); (try clear hi); (try clear ho0)) | ((with_reducible refine gate_callee (f := 81) rfl ?_); refine goesL_ (some 15) rfl rfl Try.func81 (by kernel_rfl) rfl #[.pointer (some ⟨g572, 0, none⟩), .int .i64 6] rfl (by (try simp only [List.map_toArray, List.map_cons, List.map_nil]); first | done | rfl | (simp only [List.length_drop, List.length_take]; rfl)) ?_; (with_reducible refine (spec_l30Rd_pick.calls k g572 t570 t580 6 t581 t582 w _ ?side1 ?side2 A5.out).mono ?_); (case side1 => repeat (first | (with_reducible first | exact HI572.out | apply IsS106.alloc | apply IsS106.drewN | apply IsS106.drew | apply IsS106.set_1) | exact HI572.out)); (case side2 => repeat (first | (with_reducible first | exact HB.out | apply below_alloc | apply pw_below_drewN | apply below_drew1 | refine below_set ?_ (IsS106.ge HI572.out)) | exact HB.out)); rintro e w12 ⟨rfl, hi, hb, hk⟩; refine ⟨_, rfl, ?_⟩; have n0_ := Aside0.mk (Kd.R_mono (Kd.R_keep (IsS106.apart (show IsS106 w _ g572 t570 t580 from by repeat (first | (with_reducible first | exact HI572.out | apply IsS106.alloc | apply IsS106.drewN | apply IsS106.drew | apply IsS106.set_1) | exact HI572.out)) (by (with_reducible repeat (first | apply Kd.R_alloc | apply Kd.R_drewN | apply Kd.R_drew)); exact HO575.out) (by decide)) hk (fun _ h => h.2)) (fun _ h => h.1)); have n1_ := Aside0.mk (Kd.S_mono (Kd.S_keep (IsS106.apartS (show IsS106 w _ g572 t570 t580 from by repeat (first | (with_reducible first | exact HI572.out | apply IsS106.alloc | apply IsS106.drewN | apply IsS106.drew | apply IsS106.set_1) | exact HI572.out)) (by (with_reducible repeat (first | apply Kd.S_alloc | apply Kd.S_drewN | apply Kd.S_drew)); exact HO579.out) (by decide)) hk (fun _ h => h.2)) (fun _ h => h.1)); have n2_ := Aside0.mk (hb); have n3_ := Aside0.mk (hi); clear HO575; clear HO579; clear HB; clear HI572; have HO575 := n0_; have HO579 := n1_; have HB := n2_; have HI572 := n3_; clear n0_ n1_ n2_ n3_; (try clear hb); (try clear hb2); (try clear hk); (try clear hi)) | ((with_reducible refine gate_callee (f := 82) rfl ?_); refine goesL_ (some 19) rfl rfl Try.func82 (by kernel_rfl) rfl #[.pointer (some ⟨g572, 0, none⟩), .slice Ao10 t573.length co10] rfl (by (try simp only [List.map_toArray, List.map_cons, List.map_nil]); first | done | rfl | (simp only [List.length_drop, List.length_take]; rfl)) ?_; (with_reducible refine (spec_l30Turn.calls k g572 t570 t582 _ _ t573 t583 t586 w _ ?side1 ?side2 ?side3 ?side4 ?side5 A7.out).mono ?_); (case side1 => repeat (first | (with_reducible first | exact HI572.out | apply IsS106.alloc | apply IsS106.drewN | apply IsS106.drew | apply IsS106.set_1) | exact HI572.out)); (case side2 => repeat (first | (with_reducible first | exact HB.out | apply below_alloc | apply pw_below_drewN | apply below_drew1 | refine below_set ?_ (IsS106.ge HI572.out)) | exact HB.out)); (case side3 => repeat (first | exact (Kd.R_reads' HO575.out).2.2 | (with_reducible refine Kd.C_alloc ?_ _) | (with_reducible refine Kd.C_drewN ?_ _) | (with_reducible refine Kd.C_drew ?_))); (case side4 => exact (Kd.R_reads' HO575.out).2.1); (case side5 => exact far_slice (IsS106.own_ne HI572.out HO575.out (by decide))); rintro e w13 ⟨v584, rfl, ho0, hi, hb, hk⟩; refine ⟨_, rfl, ?_⟩; have n0_ := Aside0.mk (Kd.R_mono (Kd.R_told (Kd.R_oldK (IsS106.apart (show IsS106 w _ g572 t570 t582 from by repeat (first | (with_reducible first | exact HI572.out | apply IsS106.alloc | apply IsS106.drewN | apply IsS106.drew | apply IsS106.set_1) | exact HI572.out)) (by (with_reducible repeat (first | apply Kd.R_alloc | apply Kd.R_drewN | apply Kd.R_drew)); exact HO575.out) (by decide)) hk) (Kd.R_base ho0)) (fun _ h_ => h_.1)); have n1_ := Aside0.mk (Kd.S_mono (Kd.S_told (Kd.S_oldK (IsS106.apartS (show IsS106 w _ g572 t570 t582 from by repeat (first | (with_reducible first | exact HI572.out | apply IsS106.alloc | apply IsS106.drewN | apply IsS106.drew | apply IsS106.set_1) | exact HI572.out)) (by (with_reducible repeat (first | apply Kd.S_alloc | apply Kd.S_drewN | apply Kd.S_drew)); exact HO579.out) (by decide)) hk) (Kd.R_base ho0)) (fun _ h_ => h_.1)); have n2_ := Aside0.mk (Kd.R_lower (Kd.R_new' ho0 (Kd.R_lt (by (with_reducible repeat (first | apply Kd.R_alloc | apply Kd.R_drewN | apply Kd.R_drew)); exact HO575.out))) (below_size (by repeat (first | (with_reducible first | exact HB.out | apply below_alloc | apply pw_below_drewN | apply below_drew1 | refine below_set ?_ (IsS106.ge HI572.out)) | exact HB.out)))); have n3_ := Aside0.mk (hb); have n4_ := Aside0.mk (hi); clear HO575; clear HO579; clear HB; clear HI572; have HO575 := n0_; have HO579 := n1_; have HO585 := n2_; have HB := n3_; have HI572 := n4_; clear n0_ n1_ n2_ n3_ n4_; (try clear hb); (try clear hb2); (try clear hk); (try clear hi); (try clear ho0)))
   go_ret2
   exact ⟨_, _, by first | rfl | (simp [errW_none, errW_some] <;> rfl) | (simp [*, errW_none, errW_some] <;> rfl), by (with_reducible repeat (first | apply Kd.R_alloc | apply Kd.R_drewN | apply Kd.R_drew)); exact Kd.R_mono HO585.out (fun _ hk => trivial), by (with_reducible repeat (first | apply Kd.S_alloc | apply Kd.S_drewN | apply Kd.S_drew)); exact Kd.S_mono HO579.out (fun _ hk => hk.2), by repeat (first | (with_reducible first | exact HB.out | apply below_alloc | apply pw_below_drewN | apply below_drew1 | refine below_set ?_ (IsS106.ge HI572.out)) | exact HB.out)⟩
 · rw [if_neg c6] at H
   have c6b0 : (t581 == 0) = false := beq_eq_false_iff_ne.mpr c6
   have c6b1 : (t581 != 0) = true := bne_iff_ne.mpr c6
   simp only [Option.some.injEq, Prod.mk.injEq] at H
   obtain ⟨rfl, rfl⟩ := H
   go_enter Try.func34, Try.ntmps34
   go_wp2_with (first | ((with_reducible refine gate_callee (f := 78) rfl ?_); refine goesL_ (some 8) rfl rfl Try.func78 (by kernel_rfl) rfl #[.slice A0 l0.length c0] rfl (by (try simp only [List.map_toArray, List.map_cons, List.map_nil]); first | done | rfl | (simp only [List.length_drop, List.length_take]; rfl)) ?_; (with_reducible refine (spec_l30Open.calls _ _ l0 t570 t571 w _ ?side1 ?side2 ?side3 A2.out).mono ?_); (case side1 => repeat (first | (with_reducible first | exact HB.out | apply below_alloc | apply pw_below_drewN | apply below_drew1) | exact HB.out)); (case side2 => exact HR0.out); (case side3 => exact HC0.out); rintro e w14 ⟨g572, rfl, hi, hb, hb2⟩; refine ⟨_, rfl, ?_⟩; have n0_ := Aside0.mk (hb); have n1_ := Aside0.mk (hi); clear HB; have HB := n0_; have HI572 := n1_; clear n0_ n1_; (try clear hb); (try clear hb2); (try clear hk); (try clear hi)) | ((with_reducible refine gate_callee (f := 79) rfl ?_); refine goesL_ (some 10) rfl rfl Try.func79 (by kernel_rfl) rfl #[.pointer (some ⟨g572, 0, none⟩)] rfl (by (try simp only [List.map_toArray, List.map_cons, List.map_nil]); first | done | rfl | (simp only [List.length_drop, List.length_take]; rfl)) ?_; (with_reducible refine (spec_l30AnyText.calls k g572 t570 t571 t573 t576 w _ ?side1 ?side2 A3.out).mono ?_); (case side1 => repeat (first | (with_reducible first | exact HI572.out | apply IsS106.alloc | apply IsS106.drewN | apply IsS106.drew | apply IsS106.set_1) | exact HI572.out)); (case side2 => repeat (first | (with_reducible first | exact HB.out | apply below_alloc | apply pw_below_drewN | apply below_drew1 | refine below_set ?_ (IsS106.ge HI572.out)) | exact HB.out)); rintro e w15 ⟨v574, rfl, ho0, hi, hb, hk⟩; refine ⟨_, rfl, ?_⟩; have n0_ := Aside0.mk (Kd.R_lower ho0 (below_size (by repeat (first | (with_reducible first | exact HB.out | apply below_alloc | apply pw_below_drewN | apply below_drew1 | refine below_set ?_ (IsS106.ge HI572.out)) | exact HB.out)))); have n1_ := Aside0.mk (hb); have n2_ := Aside0.mk (hi); clear HB; clear HI572; have HO575 := n0_; have HB := n1_; have HI572 := n2_; clear n0_ n1_ n2_; (try clear hb); (try clear hb2); (try clear hk); (try clear hi); (try clear ho0); obtain ⟨Ao16, co16, eo16⟩ := Kd.R_slice HO575.out; subst eo16) | ((with_reducible refine gate_callee (f := 80) rfl ?_); refine goesL_ (some 13) rfl rfl Try.func80 (by kernel_rfl) rfl #[.pointer (some ⟨g572, 0, none⟩), .slice Ao16 t573.length co16] rfl (by (try simp only [List.map_toArray, List.map_cons, List.map_nil]); first | done | rfl | (simp only [List.length_drop, List.length_take]; rfl)) ?_; (with_reducible refine (spec_l30Delta.calls k g572 t570 t576 _ _ t573 t577 t580 w _ ?side1 ?side2 ?side3 ?side4 ?side5 A4.out).mono ?_); (case side1 => repeat (first | (with_reducible first | exact HI572.out | apply IsS106.alloc | apply IsS106.drewN | apply IsS106.drew | apply IsS106.set_1) | exact HI572.out)); (case side2 => repeat (first | (with_reducible first | exact HB.out | apply below_alloc | apply pw_below_drewN | apply below_drew1 | refine below_set ?_ (IsS106.ge HI572.out)) | exact HB.out)); (case side3 => repeat (first | exact (Kd.R_reads' HO575.out).2.2 | (with_reducible refine Kd.C_alloc ?_ _) | (with_reducible refine Kd.C_drewN ?_ _) | (with_reducible refine Kd.C_drew ?_))); (case side4 => exact (Kd.R_reads' HO575.out).2.1); (case side5 => exact far_slice (IsS106.own_ne HI572.out HO575.out (by decide))); rintro e w17 ⟨v578, rfl, ho0, hi, hb, hk⟩; refine ⟨_, rfl, ?_⟩; have n0_ := Aside0.mk (Kd.R_mono (Kd.R_keep (IsS106.apart (show IsS106 w _ g572 t570 t576 from by repeat (first | (with_reducible first | exact HI572.out | apply IsS106.alloc | apply IsS106.drewN | apply IsS106.drew | apply IsS106.set_1) | exact HI572.out)) (by (with_reducible repeat (first | apply Kd.R_alloc | apply Kd.R_drewN | apply Kd.R_drew)); exact HO575.out) (by decide)) hk (fun _ h => h.2)) (fun _ h => h.1)); have n1_ := Aside0.mk (Kd.S_lower (Kd.S_new' ho0 (Kd.R_lt (by (with_reducible repeat (first | apply Kd.R_alloc | apply Kd.R_drewN | apply Kd.R_drew)); exact HO575.out))) (below_size (by repeat (first | (with_reducible first | exact HB.out | apply below_alloc | apply pw_below_drewN | apply below_drew1 | refine below_set ?_ (IsS106.ge HI572.out)) | exact HB.out)))); have n2_ := Aside0.mk (hb); have n3_ := Aside0.mk (hi); clear HO575; clear HB; clear HI572; have HO575 := n0_; have HO579 := n1_; have HB := n2_; have HI572 := n3_; clear n0_ n1_ n2_ n3_; (try clear hb); (try clear hb2); (try clear hk); (try clear hi); (try clear ho0)) | ((with_reducible refine gate_callee (f := 81) rfl ?_); refine goesL_ (some 15) rfl rfl Try.func81 (by kernel_rfl) rfl #[.pointer (some ⟨g572, 0, none⟩), .int .i64 6] rfl (by (try simp only [List.map_toArray, List.map_cons, List.map_nil]); first | done | rfl | (simp only [List.length_drop, List.length_take]; rfl)) ?_; (with_reducible refine (spec_l30Rd_pick.calls k g572 t570 t580 6 t581 t582 w _ ?side1 ?side2 A5.out).mono ?_); (case side1 => repeat (first | (with_reducible first | exact HI572.out | apply IsS106.alloc | apply IsS106.drewN | apply IsS106.drew | apply IsS106.set_1) | exact HI572.out)); (case side2 => repeat (first | (with_reducible first | exact HB.out | apply below_alloc | apply pw_below_drewN | apply below_drew1 | refine below_set ?_ (IsS106.ge HI572.out)) | exact HB.out)); rintro e w18 ⟨rfl, hi, hb, hk⟩; refine ⟨_, rfl, ?_⟩; have n0_ := Aside0.mk (Kd.R_mono (Kd.R_keep (IsS106.apart (show IsS106 w _ g572 t570 t580 from by repeat (first | (with_reducible first | exact HI572.out | apply IsS106.alloc | apply IsS106.drewN | apply IsS106.drew | apply IsS106.set_1) | exact HI572.out)) (by (with_reducible repeat (first | apply Kd.R_alloc | apply Kd.R_drewN | apply Kd.R_drew)); exact HO575.out) (by decide)) hk (fun _ h => h.2)) (fun _ h => h.1)); have n1_ := Aside0.mk (Kd.S_mono (Kd.S_keep (IsS106.apartS (show IsS106 w _ g572 t570 t580 from by repeat (first | (with_reducible first | exact HI572.out | apply IsS106.alloc | apply IsS106.drewN | apply IsS106.drew | apply IsS106.set_1) | exact HI572.out)) (by (with_reducible repeat (first | apply Kd.S_alloc | apply Kd.S_drewN | apply Kd.S_drew)); exact HO579.out) (by decide)) hk (fun _ h => h.2)) (fun _ h => h.1)); have n2_ := Aside0.mk (hb); have n3_ := Aside0.mk (hi); clear HO575; clear HO579; clear HB; clear HI572; have HO575 := n0_; have HO579 := n1_; have HB := n2_; have HI572 := n3_; clear n0_ n1_ n2_ n3_; (try clear hb); (try clear hb2); (try clear hk); (try clear hi)))
   go_ret2
   exact ⟨_, _, by first | rfl | (simp [errW_none, errW_some] <;> rfl) | (simp [*, errW_none, errW_some] <;> rfl), by (with_reducible repeat (first | apply Kd.R_alloc | apply Kd.R_drewN | apply Kd.R_drew)); exact HO575.out, by (with_reducible repeat (first | apply Kd.S_alloc | apply Kd.S_drewN | apply Kd.S_drew)); exact Kd.S_mono HO579.out (fun _ hk => hk.2), by repeat (first | (with_reducible first | exact HB.out | apply below_alloc | apply pw_below_drewN | apply below_drew1 | refine below_set ?_ (IsS106.ge HI572.out)) | exact HB.out)⟩
end Go.Proofs.Ytfnhjaiioojbkaa.Q
end
section
namespace Go.Proofs.Ytfnhjaiioojbkaa.Q
open Go.RowKit Go.Proofs.YtfnhjaiioojbkaaW.PrintWords Go.Proofs.YtfnhjaiioojbkaaW.PrintLast Go.Proofs.YtfnhjaiioojbkaaW.PrintMore
attribute [local go_sem] max2_int min2_int max_two min_two max_three min_three max_four min_four   -- for this text's walks alone
set_option linter.unusedVariables false
set_option linter.unusedSimpArgs false
def spec_l13Do.l0 : Nat → List ByteArray → List (S39) → List ByteArray → Int → Option (List ByteArray × Bool)
 | 0, _, _, _, _ => none
 | k + 1, x0, x1, x6, x7 => if x7 < (x1.length : Int) then (if 0 ≤ x7 then (if (wrap64 (((rd_T39 x1 x7).f0) + ((rd_T39 x1 x7).f1))) > (x0.length : Int) then (some (([] : List ByteArray), false)) else (if 0 ≤ ((rd_T39 x1 x7).f0) then (if ((rd_T39 x1 x7).f0) ≤ (wrap64 (((rd_T39 x1 x7).f0) + ((rd_T39 x1 x7).f1))) then (if (wrap64 (((rd_T39 x1 x7).f0) + ((rd_T39 x1 x7).f1))) ≤ (x0.length : Int) then (if x6.length + ((x0.take ((wrap64 (((rd_T39 x1 x7).f0) + ((rd_T39 x1 x7).f1))) : Int).toNat).drop (((rd_T39 x1 x7).f0) : Int).toNat).length < 8796093022208 then ((some (x6 ++ ((x0.take ((wrap64 (((rd_T39 x1 x7).f0) + ((rd_T39 x1 x7).f1))) : Int).toNat).drop (((rd_T39 x1 x7).f0) : Int).toNat) : List ByteArray)).bind fun y596 => (if y596.length + ((rd_T39 x1 x7).f2).length < 8796093022208 then (spec_l13Do.l0 k x0 x1 (y596 ++ ((rd_T39 x1 x7).f2)) (wrap64 (x7 + 1))) else (none))) else (none)) else (none)) else (none)) else (none))) else (none)) else ((spec_l1Ok.f k x6).bind fun t603 => (if t603 = true then (some (x6, true)) else (some (([] : List ByteArray), false))))
def spec_l13Do.f (k : Nat) (l0 : List ByteArray) (l1 : List (S39)) : Option (List ByteArray × Bool) := spec_l13Do.l0 k l0 l1 (([] : List ByteArray)) 0
theorem spec_l13Do.mono_l : ∀ k, (∀ y0 y1 y2 y3, LeO (spec_l13Do.l0 k y0 y1 y2 y3) (spec_l13Do.l0 (k + 1) y0 y1 y2 y3))
 | 0 => fun _ _ _ _ r h => by simp [spec_l13Do.l0] at h
 | k + 1 => by
  have ih0 := spec_l13Do.mono_l k
  · intro y0 y1 y2 y3
    unfold spec_l13Do.l0
    repeat' first
    | (with_reducible exact ih0 _ _ _ _)
    | (with_reducible exact spec_l1Ok.mono _ _)
    | (with_reducible exact LeO.refl _)
    | (with_reducible exact LeO.none _)
    | (with_reducible refine LeO.ite ?_ ?_)
    | (with_reducible refine LeO.bind ?_ (fun _ => ?_))
    | exact ih0 _ _ _ _
    | exact spec_l1Ok.mono _ _
    | exact LeO.none _
    | refine LeO.ite ?_ ?_
    | refine LeO.bind ?_ (fun _ => ?_)
theorem spec_l13Do.mono : ∀ a0 a1 k, LeO (spec_l13Do.f k a0 a1) (spec_l13Do.f (k + 1) a0 a1) := by
 intro a0 a1 k
 have ih0 := spec_l13Do.mono_l k
 unfold spec_l13Do.f
 repeat' first
  | (with_reducible exact ih0 _ _ _ _)
  | (with_reducible exact spec_l1Ok.mono _ _)
  | (with_reducible exact LeO.refl _)
  | (with_reducible exact LeO.none _)
  | (with_reducible refine LeO.ite ?_ ?_)
  | (with_reducible refine LeO.bind ?_ (fun _ => ?_))
  | exact ih0 _ _ _ _
  | exact spec_l1Ok.mono _ _
  | exact LeO.none _
  | refine LeO.ite ?_ ?_
  | refine LeO.bind ?_ (fun _ => ?_)
def spec_l13Do.T5 : Bool × List (List Nat × List Nat) := (true, [([], []), ([], []), ([0, 1], [0, 1]), ([2], [2]), ([3], [3]), ([], []), ([], []), ([5, 6], [5, 6]), ([7], [7]), ([8], [8]), ([4, 9], [4, 9]), ([], []), ([11], [11]), ([10, 12], [10, 12])])
def spec_l13Do.B5 : List Nat := [0, 0, 3, 7, 15, 0, 0, 96, 224, 480, 1023, 0, 2048, 8191]
theorem spec_l13Do.tab5 : rtab .any (opsOf Try.f83 5) = spec_l13Do.T5 := by kernel_rfl
theorem spec_l13Do.bits5 : waitsOk spec_l13Do.T5.2 spec_l13Do.B5 = true := by kernel_rfl
def spec_l13Do.T7 : Bool × List (List Nat × List Nat) := (true, [([], []), ([], []), ([], []), ([], []), ([2, 3], [2, 3]), ([4], [4]), ([5], [5]), ([], []), ([], []), ([7, 8], [7, 8]), ([9], [9]), ([10], [10]), ([], []), ([], []), ([12, 13], [12, 13]), ([14], [14]), ([15], [15]), ([11, 16], [11, 16]), ([1, 6, 17], [1, 6, 17]), ([0, 18], [0, 18]), ([19, 19, 0, 1, 2, 3, 4, 5, 6, 7, 8, 9, 10, 11, 12, 13, 14, 15, 16, 17, 18, 19], [0, 19])])
def spec_l13Do.B7 : List Nat := [0, 0, 0, 0, 12, 28, 60, 0, 0, 384, 896, 1920, 0, 0, 12288, 28672, 61440, 130944, 262142, 524287, 1048575]
theorem spec_l13Do.tab7 : rtab .any (opsOf Try.f83 7) = spec_l13Do.T7 := by kernel_rfl
theorem spec_l13Do.bits7 : waitsOk spec_l13Do.T7.2 spec_l13Do.B7 = true := by kernel_rfl
set_option maxHeartbeats 8000000 in
set_option maxRecDepth 100000 in
theorem spec_l13Do.calls (k : Nat) (A0 : Option Addr) (c0 : Nat) (l0 : List ByteArray) (A1 : Option Addr) (c1 : Nat) (l1 : List (S39)) (r1 : List ByteArray) (r2 : Bool) (w : World) (hr0 : Kd.C Kd.string w A0 l0.length l0) (hc0 : l0.length ≤ c0) (hr1 : Kd.C k39 w A1 l1.length l1) (hc1 : l1.length ≤ c1) (h : spec_l13Do.f k l0 l1 = some (r1, r2)) :
 Calls Try.prog 83 #[.slice A0 l0.length c0, .slice A1 l1.length c1] w fun e w' => ∃ v0_ : Value, e = .returned (.tuple #[v0_, .bool r2]) ∧ Kd.R Kd.string 9 w' w.heap.size (fun _ => True) v0_ r1 ∧ Below w.heap.size w w' := by
 have HR0 := Aside0.mk hr0
 have HC0 := Aside0.mk hc0
 clear hr0 hc0
 have HR1 := Aside0.mk hr1
 have HC1 := Aside0.mk hc1
 clear hr1 hc1
 have HB := Aside0.mk (Below.refl w.heap.size w)
 have H : (spec_l13Do.l0 k l0 l1 (([] : List ByteArray)) 0) = some (r1, r2) := h
 clear h
 obtain ⟨y587, hy587⟩ : ∃ y_ : List ByteArray, y_ = (([] : List ByteArray)) := ⟨_, rfl⟩
 replace H : (spec_l13Do.l0 k l0 l1 y587 0) = some (r1, r2) := by first | (rw [hy587]; with_reducible exact H) | (have H2_ := (Option.bind_some _ _).symm.trans H; rw [hy587]; with_reducible exact H2_) | (have H2_ := (Option.bind_some _ _).symm.trans H; with_reducible exact H2_) | with_reducible exact H | (rw [hy587]; exact H) | exact H
 have Ny587 := Aside0.mk hy587
 clear hy587
 have H' := Aside0.mk H
 clear H
 go_enter Try.func83, Try.ntmps83
 go_wp2_with (first | ((with_reducible refine gate_dst (N := 8) rfl ?_); refine Kd.R_lit Kd.string _ 9 ?hg (N := 8) ?hd (xs := ([] : List ByteArray)) (inner := []) (ok := fun _ => True) (okp := fun _ => True) ?hr ?hp (fun _ hk => hk) trivial (Below.refl _ _) (Nat.le_refl _) (by simp) ?_; (case hd => rfl); (case hg => rfl); (case hr => first | (go_simp; done) | (go_simp; rfl)); (case hp => exact (Reps.none _ _)); intro v588 w3 ho4 hb hg_ hnew_; clear hg_ hnew_; (first | rw [← Ny587.out] at ho4 | (simp only [Int.reduceToNat] at ho4; rw [← Ny587.out] at ho4)); have n0_ := Aside0.mk (Kd.R_lower ho4 (below_size (by repeat (first | (with_reducible first | exact HB.out | apply below_alloc | apply pw_below_drewN | apply below_drew1) | exact HB.out)))); have n1_ := Aside0.mk (below_step (by repeat (first | (with_reducible first | exact HB.out | apply below_alloc | apply pw_below_drewN | apply below_drew1) | exact HB.out)) hb); clear HB; have HO589 := n0_; have HB := n1_; clear n0_ n1_; clear hb ho4))
 go_loopg [6, 7] k (fun kq v6 v7 w' => ∃ (x6_1 : List ByteArray) (x7_1 : Int), v7 = .int .i64 x7_1 ∧ Aside0 (spec_l13Do.l0 kq l0 l1 x6_1 x7_1 = some (r1, r2)) ∧ Aside0 (kq ≤ k) ∧ Aside0 (Kd.R Kd.string 9 w' w.heap.size (fun _ => True) v6 x6_1) ∧ Aside0 (Below w.heap.size w w'))
 case atStart => exact ⟨(y587), (0), (by first | rfl | (simp; done) | (simp [*]; done)), H', ⟨Nat.le_refl _⟩, ⟨by (with_reducible repeat (first | apply Kd.R_alloc | apply Kd.R_drewN | apply Kd.R_drew)); exact HO589.out⟩, ⟨by repeat (first | (with_reducible first | exact HB.out | apply below_alloc | apply pw_below_drewN | apply below_drew1) | exact HB.out)⟩⟩
 case round =>
  clear H'
  try clear c1
  try clear p2
  obtain ⟨x6_1, x7_1, rfl, HA, HK1, HO_6, HB⟩ := hrel
  cases gk with
  | zero => exact absurd HA.out (by simp [spec_l13Do.l0])
  | succ k1 =>
   have H := HA.out
   clear HA
   simp only [spec_l13Do.l0] at H
   by_cases c5 : x7_1 < (l1.length : Int)
   · rw [if_pos c5] at H
     have c5b0 : decide (x7_1 < (l1.length : Int)) = true := decide_eq_true c5
     clear c5
     by_cases c6 : 0 ≤ x7_1
     · rw [if_pos c6] at H
       have c6b0 : decide (0 ≤ x7_1) = true := decide_eq_true c6
       clear c6
       by_cases c7 : (wrap64 (((rd_T39 l1 x7_1).f0) + ((rd_T39 l1 x7_1).f1))) > (l0.length : Int)
       · rw [if_pos c7] at H
         have c7b0 : decide ((l0.length : Int) < (wrap64 (((rd_T39 l1 x7_1).f0) + ((rd_T39 l1 x7_1).f1)))) = true := decide_eq_true c7
         clear c7
         simp only [Option.some.injEq, Prod.mk.injEq] at H
         obtain ⟨rfl, rfl⟩ := H
         try go_wp2
         have n0_ := Aside0.mk (Kd.R_drew HO_6.out)
         have n1_ := Aside0.mk (below_drew1 HB.out)
         clear HO_6
         clear HB
         have HO_6 := n0_
         have HB := n1_
         clear n0_ n1_
         have p590 : 0 ≤ (x7_1 : Int) := of_decide_eq_true (by assumption)
         have q590 : x7_1 < (l1.length : Int) := of_decide_eq_true (by assumption)
         obtain ⟨ad590, A590_2, c590_2, e590, hx590_0, hx590_1, hx590_2, hl590_2, hi590_2⟩ := at_T39 HR1.out x7_1 p590 q590
         have hw590_2 := hx590_2
         have hw590_1 := hx590_1
         have hw590_0 := hx590_0
         cases e590
         replace hx590_0 := (HB.out.cell (World.block_lt_of_cell? w _ hx590_0)).trans hx590_0
         replace hx590_1 := (HB.out.cell (World.block_lt_of_cell? w _ hx590_1)).trans hx590_1
         replace hx590_2 := (HB.out.cell (World.block_lt_of_cell? w _ hx590_2)).trans hx590_2
         have HR590_2 := Aside0.mk hi590_2
         have HC590_2 := Aside0.mk hl590_2
         clear hi590_2 hl590_2
         replace p590 := eq_true p590
         replace q590 := eq_true q590
         have p591 : 0 ≤ (x7_1 : Int) := of_decide_eq_true (by assumption)
         have q591 : x7_1 < (l1.length : Int) := of_decide_eq_true (by assumption)
         obtain ⟨ad591, A591_2, c591_2, e591, hx591_0, hx591_1, hx591_2, hl591_2, hi591_2⟩ := at_T39 HR1.out x7_1 p591 q591
         have hw591_2 := hx591_2
         have hw591_1 := hx591_1
         have hw591_0 := hx591_0
         obtain rfl : ad590 = ad591 := (by injection e591)
         replace hx591_0 := (HB.out.cell (World.block_lt_of_cell? w _ hx591_0)).trans hx591_0
         replace hx591_1 := (HB.out.cell (World.block_lt_of_cell? w _ hx591_1)).trans hx591_1
         replace hx591_2 := (HB.out.cell (World.block_lt_of_cell? w _ hx591_2)).trans hx591_2
         have HR591_2 := Aside0.mk hi591_2
         have HC591_2 := Aside0.mk hl591_2
         clear hi591_2 hl591_2
         replace p591 := eq_true p591
         replace q591 := eq_true q591
         have ea_ := Option.some.inj (hx590_2.symm.trans hx591_2)
         injection ea_ with ea_ en_ ec_
         subst ea_
         subst ec_
         clear en_
         refine start_ (n := 14) (S := fun w' => w'.cell? (ad590.add ((x7_1).toNat * 3)) = some (.int .i64 ((rd_T39 l1 x7_1).f0)) ∧ w'.cell? ⟨(ad590.add ((x7_1).toNat * 3)).block, (ad590.add ((x7_1).toNat * 3)).off + 1, none⟩ = some (.int .i64 ((rd_T39 l1 x7_1).f1)) ∧ w'.cell? ⟨(ad590.add ((x7_1).toNat * 3)).block, (ad590.add ((x7_1).toNat * 3)).off + 2, none⟩ = some (.slice A590_2 ((rd_T39 l1 x7_1).f2).length c590_2) ∧ w'.cell? (ad590.add ((x7_1).toNat * 3)) = some (.int .i64 ((rd_T39 l1 x7_1).f0)) ∧ w'.cell? ⟨(ad590.add ((x7_1).toNat * 3)).block, (ad590.add ((x7_1).toNat * 3)).off + 1, none⟩ = some (.int .i64 ((rd_T39 l1 x7_1).f1)) ∧ w'.cell? ⟨(ad590.add ((x7_1).toNat * 3)).block, (ad590.add ((x7_1).toNat * 3)).off + 2, none⟩ = some (.slice A590_2 ((rd_T39 l1 x7_1).f2).length c590_2)) (ds := []) #[f_, f_, f_, f_, f_, f_, f_, f_, f_, f_, f_, f_, f_, f_] (by kernel_rfl) rfl rfl ⟨((HB.out.cell (World.block_lt_of_cell? w _ hw590_0)).trans hw590_0), ((HB.out.cell (World.block_lt_of_cell? w _ hw590_1)).trans hw590_1), ((HB.out.cell (World.block_lt_of_cell? w _ hw590_2)).trans hw590_2), ((HB.out.cell (World.block_lt_of_cell? w _ hw591_0)).trans hw591_0), ((HB.out.cell (World.block_lt_of_cell? w _ hw591_1)).trans hw591_1), ((HB.out.cell (World.block_lt_of_cell? w _ hw591_2)).trans hw591_2)⟩ (fun hHeld => ?_); refine with_tabW spec_l13Do.tab5 spec_l13Do.bits5 (fun HT_ HW_ => ?_)
         generalize wr.drew = w8 at HO_6 HB HR590_2 HR591_2 hx590_0 hx590_1 hx590_2 hx591_0 hx591_1 hx591_2 hHeld ⊢
         refine pure_ (i := 0) (N := some 15) (v := ?_) (a' := ?_) #[t_, f_, f_, f_, f_, f_, f_, f_, f_, f_, f_, f_, f_, f_] rfl rfl (any_of HT_.out (by kernel_rfl)) (fun _ _ _ h => h) (Or.inl ⟨by rfl, ?_⟩) ?_ ?_
         rotate_left
         · intro w'
           go_simp
           with_reducible rfl
         rotate_left
         · simp only [Act.put, List.setIfInBounds_toArray, List.set_cons_zero, List.set_cons_succ, i64_w, i32_w]
           rfl
         refine pure_ (i := 1) (N := some 16) (v := ?_) (a' := ?_) #[t_, t_, f_, f_, f_, f_, f_, f_, f_, f_, f_, f_, f_, f_] rfl rfl (any_of HT_.out (by kernel_rfl)) (fun _ _ _ h => h) (Or.inl ⟨by rfl, ?_⟩) ?_ ?_
         rotate_left
         · intro w'
           go_simp
           with_reducible rfl
         rotate_left
         · simp only [Act.put, List.setIfInBounds_toArray, List.set_cons_zero, List.set_cons_succ, i64_w, i32_w]
           rfl
         refine pure_ (i := 2) (N := some 17) (v := ?_) (a' := ?_) #[t_, t_, t_, f_, f_, f_, f_, f_, f_, f_, f_, f_, f_, f_] rfl rfl (any_of HT_.out (by kernel_rfl)) (fun _ _ _ h => h) (Or.inl ⟨by rfl, ?_⟩) ?_ ?_
         rotate_left
         · intro w'
           go_simp
           with_reducible rfl
         rotate_left
         · simp only [Act.put, List.setIfInBounds_toArray, List.set_cons_zero, List.set_cons_succ, i64_w, i32_w]
           rfl
         refine pure_ (i := 3) (N := some 18) (v := ?_) (a' := ?_) #[t_, t_, t_, t_, f_, f_, f_, f_, f_, f_, f_, f_, f_, f_] rfl rfl (any_of HT_.out (by kernel_rfl)) (fun _ _ _ h => h) (Or.inl ⟨by rfl, ?_⟩) ?_ ?_
         rotate_left
         · intro w'
           go_simp
           with_reducible rfl
         rotate_left
         · simp only [Act.put, List.setIfInBounds_toArray, List.set_cons_zero, List.set_cons_succ, i64_w, i32_w]
           rfl
         refine pure_ (i := 5) (N := some 20) (v := ?_) (a' := ?_) #[t_, t_, t_, t_, f_, t_, f_, f_, f_, f_, f_, f_, f_, f_] rfl rfl (any_of HT_.out (by kernel_rfl)) (fun _ _ _ h => h) (Or.inl ⟨by rfl, ?_⟩) ?_ ?_
         rotate_left
         · intro w'
           go_simp
           with_reducible rfl
         rotate_left
         · simp only [Act.put, List.setIfInBounds_toArray, List.set_cons_zero, List.set_cons_succ, i64_w, i32_w]
           rfl
         refine pure_ (i := 6) (N := some 21) (v := ?_) (a' := ?_) #[t_, t_, t_, t_, f_, t_, t_, f_, f_, f_, f_, f_, f_, f_] rfl rfl (any_of HT_.out (by kernel_rfl)) (fun _ _ _ h => h) (Or.inl ⟨by rfl, ?_⟩) ?_ ?_
         rotate_left
         · intro w'
           go_simp
           with_reducible rfl
         rotate_left
         · simp only [Act.put, List.setIfInBounds_toArray, List.set_cons_zero, List.set_cons_succ, i64_w, i32_w]
           rfl
         refine pure_ (i := 7) (N := some 22) (v := ?_) (a' := ?_) #[t_, t_, t_, t_, f_, t_, t_, t_, f_, f_, f_, f_, f_, f_] rfl rfl (any_of HT_.out (by kernel_rfl)) (fun _ _ _ h => h) (Or.inl ⟨by rfl, ?_⟩) ?_ ?_
         rotate_left
         · intro w'
           go_simp
           with_reducible rfl
         rotate_left
         · simp only [Act.put, List.setIfInBounds_toArray, List.set_cons_zero, List.set_cons_succ, i64_w, i32_w]
           rfl
         refine pure_ (i := 8) (N := some 23) (v := ?_) (a' := ?_) #[t_, t_, t_, t_, f_, t_, t_, t_, t_, f_, f_, f_, f_, f_] rfl rfl (any_of HT_.out (by kernel_rfl)) (fun _ _ _ h => h) (Or.inl ⟨by rfl, ?_⟩) ?_ ?_
         rotate_left
         · intro w'
           go_simp
           with_reducible rfl
         rotate_left
         · simp only [Act.put, List.setIfInBounds_toArray, List.set_cons_zero, List.set_cons_succ, i64_w, i32_w]
           rfl
         refine pure_ (i := 11) (N := some 26) (v := ?_) (a' := ?_) #[t_, t_, t_, t_, f_, t_, t_, t_, t_, f_, f_, t_, f_, f_] rfl rfl (any_of HT_.out (by kernel_rfl)) (fun _ _ _ h => h) (Or.inl ⟨by rfl, ?_⟩) ?_ ?_
         rotate_left
         · intro w'
           go_simp
           with_reducible rfl
         rotate_left
         · simp only [Act.put, List.setIfInBounds_toArray, List.set_cons_zero, List.set_cons_succ, i64_w, i32_w]
           rfl
         refine pure_ (i := 12) (N := some 27) (v := ?_) (a' := ?_) #[t_, t_, t_, t_, f_, t_, t_, t_, t_, f_, f_, t_, t_, f_] rfl rfl (any_of HT_.out (by kernel_rfl)) (fun _ _ _ h => h) (Or.inl ⟨by rfl, ?_⟩) ?_ ?_
         rotate_left
         · intro w'
           go_simp
           with_reducible rfl
         rotate_left
         · simp only [Act.put, List.setIfInBounds_toArray, List.set_cons_zero, List.set_cons_succ, i64_w, i32_w]
           rfl
         refine take_ (i := 4) (N := some 19) (v := ?_) (a' := ?_) #[t_, t_, t_, t_, t_, t_, t_, t_, t_, f_, f_, t_, t_, f_] rfl rfl (take_ofW HT_.out HW_.out (by kernel_rfl)) (fun _ _ _ h => h) (Or.inl ⟨by rfl, ?_⟩) hHeld ?_ ?_
         rotate_left
         · rintro w' ⟨s0, s1, s2, s3, s4, s5⟩
           go_simp
           with_reducible rfl
         rotate_left
         · simp only [Act.put, List.setIfInBounds_toArray, List.set_cons_zero, List.set_cons_succ, i64_w, i32_w]
           rfl
         refine take_ (i := 9) (N := some 24) (v := ?_) (a' := ?_) #[t_, t_, t_, t_, t_, t_, t_, t_, t_, t_, f_, t_, t_, f_] rfl rfl (take_ofW HT_.out HW_.out (by kernel_rfl)) (fun _ _ _ h => h) (Or.inl ⟨by rfl, ?_⟩) hHeld ?_ ?_
         rotate_left
         · rintro w' ⟨s0, s1, s2, s3, s4, s5⟩
           go_simp
           with_reducible rfl
         rotate_left
         · simp only [Act.put, List.setIfInBounds_toArray, List.set_cons_zero, List.set_cons_succ, i64_w, i32_w]
           rfl
         refine pure_ (i := 10) (N := some 25) (v := ?_) (a' := ?_) #[t_, t_, t_, t_, t_, t_, t_, t_, t_, t_, t_, t_, t_, f_] rfl rfl (any_of HT_.out (by kernel_rfl)) (fun _ _ _ h => h) (Or.inl ⟨by rfl, ?_⟩) ?_ ?_
         rotate_left
         · intro w'
           go_simp
           with_reducible rfl
         rotate_left
         · simp only [Act.put, List.setIfInBounds_toArray, List.set_cons_zero, List.set_cons_succ, i64_w, i32_w]
           rfl
         refine pure_ (i := 13) (N := some 28) (v := ?_) (a' := ?_) #[t_, t_, t_, t_, t_, t_, t_, t_, t_, t_, t_, t_, t_, t_] rfl rfl (any_of HT_.out (by kernel_rfl)) (fun _ _ _ h => h) (Or.inl ⟨by rfl, ?_⟩) ?_ ?_
         rotate_left
         · intro w'
           go_simp
           with_reducible rfl
         rotate_left
         · simp only [Act.put, List.setIfInBounds_toArray, List.set_cons_zero, List.set_cons_succ, i64_w, i32_w]
           rfl
         refine done_ (done_of HT_.out (by kernel_rfl)) ?_
         try go_wp2
         go_ret2
         exact ⟨_, by first | rfl | (simp [errW_none, errW_some] <;> rfl) | (simp [*, errW_none, errW_some] <;> rfl), by first | exact Kd.R_nil _ _ _ _ _ | exact Kd.N_nil _ _ _ _ _ | exact Kd.V_nil _ _ _ _ _ | exact Kd.Q_nil _ _ _ _ _ | exact Kd.S_nil _ _ _ _ _, by repeat (first | (with_reducible first | exact HB.out | apply below_alloc | apply pw_below_drewN | apply below_drew1) | exact HB.out)⟩
       · rw [if_neg c7] at H
         have c7b0 : decide ((l0.length : Int) < (wrap64 (((rd_T39 l1 x7_1).f0) + ((rd_T39 l1 x7_1).f1)))) = false := decide_eq_false c7
         clear c7
         by_cases c9 : 0 ≤ ((rd_T39 l1 x7_1).f0)
         · rw [if_pos c9] at H
           have c9b0 := eq_true c9
           have c9b1 : decide (0 ≤ ((rd_T39 l1 x7_1).f0)) = true := decide_eq_true c9
           clear c9
           by_cases c10 : ((rd_T39 l1 x7_1).f0) ≤ (wrap64 (((rd_T39 l1 x7_1).f0) + ((rd_T39 l1 x7_1).f1)))
           · rw [if_pos c10] at H
             have c10b0 := eq_true c10
             have c10b1 : decide (((rd_T39 l1 x7_1).f0) ≤ (wrap64 (((rd_T39 l1 x7_1).f0) + ((rd_T39 l1 x7_1).f1)))) = true := decide_eq_true c10
             by_cases c11 : (wrap64 (((rd_T39 l1 x7_1).f0) + ((rd_T39 l1 x7_1).f1))) ≤ (l0.length : Int)
             · rw [if_pos c11] at H
               have c11b0 := eq_true c11
               have c11b1 : decide ((wrap64 (((rd_T39 l1 x7_1).f0) + ((rd_T39 l1 x7_1).f1))) ≤ (l0.length : Int)) = true := decide_eq_true c11
               by_cases c12 : x6_1.length + ((l0.take ((wrap64 (((rd_T39 l1 x7_1).f0) + ((rd_T39 l1 x7_1).f1))) : Int).toNat).drop (((rd_T39 l1 x7_1).f0) : Int).toNat).length < 8796093022208
               · rw [if_pos c12] at H
                 have LMc12 := Aside0.mk c12
                 clear c12
                 obtain ⟨y596, hy596⟩ : ∃ y_ : List ByteArray, y_ = (x6_1 ++ ((l0.take ((wrap64 (((rd_T39 l1 x7_1).f0) + ((rd_T39 l1 x7_1).f1))) : Int).toNat).drop (((rd_T39 l1 x7_1).f0) : Int).toNat)) := ⟨_, rfl⟩
                 replace H : (if y596.length + ((rd_T39 l1 x7_1).f2).length < 8796093022208 then (spec_l13Do.l0 k1 l0 l1 (y596 ++ ((rd_T39 l1 x7_1).f2)) (wrap64 (x7_1 + 1))) else (none)) = some (r1, r2) := by first | (rw [hy596]; with_reducible exact H) | (have H2_ := (Option.bind_some _ _).symm.trans H; rw [hy596]; with_reducible exact H2_) | (have H2_ := (Option.bind_some _ _).symm.trans H; with_reducible exact H2_) | with_reducible exact H | (rw [hy596]; exact H) | exact H
                 have Ny596 := Aside0.mk hy596
                 clear hy596
                 by_cases c13 : y596.length + ((rd_T39 l1 x7_1).f2).length < 8796093022208
                 · rw [if_pos c13] at H
                   have LMc13 := Aside0.mk c13
                   clear c13
                   obtain ⟨y600, hy600⟩ : ∃ y_ : List ByteArray, y_ = (y596 ++ ((rd_T39 l1 x7_1).f2)) := ⟨_, rfl⟩
                   replace H : (spec_l13Do.l0 k1 l0 l1 y600 (wrap64 (x7_1 + 1))) = some (r1, r2) := by first | (rw [hy600]; with_reducible exact H) | (have H2_ := (Option.bind_some _ _).symm.trans H; rw [hy600]; with_reducible exact H2_) | (have H2_ := (Option.bind_some _ _).symm.trans H; with_reducible exact H2_) | with_reducible exact H | (rw [hy600]; exact H) | exact H
                   have Ny600 := Aside0.mk hy600
                   clear hy600
                   have H' := Aside0.mk H
                   clear H
                   try go_wp2
                   have n0_ := Aside0.mk (Kd.R_drew HO_6.out)
                   have n1_ := Aside0.mk (below_drew1 HB.out)
                   clear HO_6
                   clear HB
                   have HO_6 := n0_
                   have HB := n1_
                   clear n0_ n1_
                   have p590 : 0 ≤ (x7_1 : Int) := of_decide_eq_true (by assumption)
                   have q590 : x7_1 < (l1.length : Int) := of_decide_eq_true (by assumption)
                   obtain ⟨ad590, A590_2, c590_2, e590, hx590_0, hx590_1, hx590_2, hl590_2, hi590_2⟩ := at_T39 HR1.out x7_1 p590 q590
                   have hw590_2 := hx590_2
                   have hw590_1 := hx590_1
                   have hw590_0 := hx590_0
                   cases e590
                   replace hx590_0 := (HB.out.cell (World.block_lt_of_cell? w _ hx590_0)).trans hx590_0
                   replace hx590_1 := (HB.out.cell (World.block_lt_of_cell? w _ hx590_1)).trans hx590_1
                   replace hx590_2 := (HB.out.cell (World.block_lt_of_cell? w _ hx590_2)).trans hx590_2
                   have HR590_2 := Aside0.mk hi590_2
                   have HC590_2 := Aside0.mk hl590_2
                   clear hi590_2 hl590_2
                   replace p590 := eq_true p590
                   replace q590 := eq_true q590
                   have p591 : 0 ≤ (x7_1 : Int) := of_decide_eq_true (by assumption)
                   have q591 : x7_1 < (l1.length : Int) := of_decide_eq_true (by assumption)
                   obtain ⟨ad591, A591_2, c591_2, e591, hx591_0, hx591_1, hx591_2, hl591_2, hi591_2⟩ := at_T39 HR1.out x7_1 p591 q591
                   have hw591_2 := hx591_2
                   have hw591_1 := hx591_1
                   have hw591_0 := hx591_0
                   obtain rfl : ad590 = ad591 := (by injection e591)
                   replace hx591_0 := (HB.out.cell (World.block_lt_of_cell? w _ hx591_0)).trans hx591_0
                   replace hx591_1 := (HB.out.cell (World.block_lt_of_cell? w _ hx591_1)).trans hx591_1
                   replace hx591_2 := (HB.out.cell (World.block_lt_of_cell? w _ hx591_2)).trans hx591_2
                   have HR591_2 := Aside0.mk hi591_2
                   have HC591_2 := Aside0.mk hl591_2
                   clear hi591_2 hl591_2
                   replace p591 := eq_true p591
                   replace q591 := eq_true q591
                   have ea_ := Option.some.inj (hx590_2.symm.trans hx591_2)
                   injection ea_ with ea_ en_ ec_
                   subst ea_
                   subst ec_
                   clear en_
                   refine start_ (n := 14) (S := fun w' => w'.cell? (ad590.add ((x7_1).toNat * 3)) = some (.int .i64 ((rd_T39 l1 x7_1).f0)) ∧ w'.cell? ⟨(ad590.add ((x7_1).toNat * 3)).block, (ad590.add ((x7_1).toNat * 3)).off + 1, none⟩ = some (.int .i64 ((rd_T39 l1 x7_1).f1)) ∧ w'.cell? ⟨(ad590.add ((x7_1).toNat * 3)).block, (ad590.add ((x7_1).toNat * 3)).off + 2, none⟩ = some (.slice A590_2 ((rd_T39 l1 x7_1).f2).length c590_2) ∧ w'.cell? (ad590.add ((x7_1).toNat * 3)) = some (.int .i64 ((rd_T39 l1 x7_1).f0)) ∧ w'.cell? ⟨(ad590.add ((x7_1).toNat * 3)).block, (ad590.add ((x7_1).toNat * 3)).off + 1, none⟩ = some (.int .i64 ((rd_T39 l1 x7_1).f1)) ∧ w'.cell? ⟨(ad590.add ((x7_1).toNat * 3)).block, (ad590.add ((x7_1).toNat * 3)).off + 2, none⟩ = some (.slice A590_2 ((rd_T39 l1 x7_1).f2).length c590_2)) (ds := []) #[f_, f_, f_, f_, f_, f_, f_, f_, f_, f_, f_, f_, f_, f_] (by kernel_rfl) rfl rfl ⟨((HB.out.cell (World.block_lt_of_cell? w _ hw590_0)).trans hw590_0), ((HB.out.cell (World.block_lt_of_cell? w _ hw590_1)).trans hw590_1), ((HB.out.cell (World.block_lt_of_cell? w _ hw590_2)).trans hw590_2), ((HB.out.cell (World.block_lt_of_cell? w _ hw591_0)).trans hw591_0), ((HB.out.cell (World.block_lt_of_cell? w _ hw591_1)).trans hw591_1), ((HB.out.cell (World.block_lt_of_cell? w _ hw591_2)).trans hw591_2)⟩ (fun hHeld => ?_); refine with_tabW spec_l13Do.tab5 spec_l13Do.bits5 (fun HT_ HW_ => ?_)
                   generalize wr.drew = w14 at HO_6 HB HR590_2 HR591_2 hx590_0 hx590_1 hx590_2 hx591_0 hx591_1 hx591_2 hHeld ⊢
                   refine pure_ (i := 0) (N := some 15) (v := ?_) (a' := ?_) #[t_, f_, f_, f_, f_, f_, f_, f_, f_, f_, f_, f_, f_, f_] rfl rfl (any_of HT_.out (by kernel_rfl)) (fun _ _ _ h => h) (Or.inl ⟨by rfl, ?_⟩) ?_ ?_
                   rotate_left
                   · intro w'
                     go_simp
                     with_reducible rfl
                   rotate_left
                   · simp only [Act.put, List.setIfInBounds_toArray, List.set_cons_zero, List.set_cons_succ, i64_w, i32_w]
                     rfl
                   refine pure_ (i := 1) (N := some 16) (v := ?_) (a' := ?_) #[t_, t_, f_, f_, f_, f_, f_, f_, f_, f_, f_, f_, f_, f_] rfl rfl (any_of HT_.out (by kernel_rfl)) (fun _ _ _ h => h) (Or.inl ⟨by rfl, ?_⟩) ?_ ?_
                   rotate_left
                   · intro w'
                     go_simp
                     with_reducible rfl
                   rotate_left
                   · simp only [Act.put, List.setIfInBounds_toArray, List.set_cons_zero, List.set_cons_succ, i64_w, i32_w]
                     rfl
                   refine pure_ (i := 2) (N := some 17) (v := ?_) (a' := ?_) #[t_, t_, t_, f_, f_, f_, f_, f_, f_, f_, f_, f_, f_, f_] rfl rfl (any_of HT_.out (by kernel_rfl)) (fun _ _ _ h => h) (Or.inl ⟨by rfl, ?_⟩) ?_ ?_
                   rotate_left
                   · intro w'
                     go_simp
                     with_reducible rfl
                   rotate_left
                   · simp only [Act.put, List.setIfInBounds_toArray, List.set_cons_zero, List.set_cons_succ, i64_w, i32_w]
                     rfl
                   refine pure_ (i := 3) (N := some 18) (v := ?_) (a' := ?_) #[t_, t_, t_, t_, f_, f_, f_, f_, f_, f_, f_, f_, f_, f_] rfl rfl (any_of HT_.out (by kernel_rfl)) (fun _ _ _ h => h) (Or.inl ⟨by rfl, ?_⟩) ?_ ?_
                   rotate_left
                   · intro w'
                     go_simp
                     with_reducible rfl
                   rotate_left
                   · simp only [Act.put, List.setIfInBounds_toArray, List.set_cons_zero, List.set_cons_succ, i64_w, i32_w]
                     rfl
                   refine pure_ (i := 5) (N := some 20) (v := ?_) (a' := ?_) #[t_, t_, t_, t_, f_, t_, f_, f_, f_, f_, f_, f_, f_, f_] rfl rfl (any_of HT_.out (by kernel_rfl)) (fun _ _ _ h => h) (Or.inl ⟨by rfl, ?_⟩) ?_ ?_
                   rotate_left
                   · intro w'
                     go_simp
                     with_reducible rfl
                   rotate_left
                   · simp only [Act.put, List.setIfInBounds_toArray, List.set_cons_zero, List.set_cons_succ, i64_w, i32_w]
                     rfl
                   refine pure_ (i := 6) (N := some 21) (v := ?_) (a' := ?_) #[t_, t_, t_, t_, f_, t_, t_, f_, f_, f_, f_, f_, f_, f_] rfl rfl (any_of HT_.out (by kernel_rfl)) (fun _ _ _ h => h) (Or.inl ⟨by rfl, ?_⟩) ?_ ?_
                   rotate_left
                   · intro w'
                     go_simp
                     with_reducible rfl
                   rotate_left
                   · simp only [Act.put, List.setIfInBounds_toArray, List.set_cons_zero, List.set_cons_succ, i64_w, i32_w]
                     rfl
                   refine pure_ (i := 7) (N := some 22) (v := ?_) (a' := ?_) #[t_, t_, t_, t_, f_, t_, t_, t_, f_, f_, f_, f_, f_, f_] rfl rfl (any_of HT_.out (by kernel_rfl)) (fun _ _ _ h => h) (Or.inl ⟨by rfl, ?_⟩) ?_ ?_
                   rotate_left
                   · intro w'
                     go_simp
                     with_reducible rfl
                   rotate_left
                   · simp only [Act.put, List.setIfInBounds_toArray, List.set_cons_zero, List.set_cons_succ, i64_w, i32_w]
                     rfl
                   refine pure_ (i := 8) (N := some 23) (v := ?_) (a' := ?_) #[t_, t_, t_, t_, f_, t_, t_, t_, t_, f_, f_, f_, f_, f_] rfl rfl (any_of HT_.out (by kernel_rfl)) (fun _ _ _ h => h) (Or.inl ⟨by rfl, ?_⟩) ?_ ?_
                   rotate_left
                   · intro w'
                     go_simp
                     with_reducible rfl
                   rotate_left
                   · simp only [Act.put, List.setIfInBounds_toArray, List.set_cons_zero, List.set_cons_succ, i64_w, i32_w]
                     rfl
                   refine pure_ (i := 11) (N := some 26) (v := ?_) (a' := ?_) #[t_, t_, t_, t_, f_, t_, t_, t_, t_, f_, f_, t_, f_, f_] rfl rfl (any_of HT_.out (by kernel_rfl)) (fun _ _ _ h => h) (Or.inl ⟨by rfl, ?_⟩) ?_ ?_
                   rotate_left
                   · intro w'
                     go_simp
                     with_reducible rfl
                   rotate_left
                   · simp only [Act.put, List.setIfInBounds_toArray, List.set_cons_zero, List.set_cons_succ, i64_w, i32_w]
                     rfl
                   refine pure_ (i := 12) (N := some 27) (v := ?_) (a' := ?_) #[t_, t_, t_, t_, f_, t_, t_, t_, t_, f_, f_, t_, t_, f_] rfl rfl (any_of HT_.out (by kernel_rfl)) (fun _ _ _ h => h) (Or.inl ⟨by rfl, ?_⟩) ?_ ?_
                   rotate_left
                   · intro w'
                     go_simp
                     with_reducible rfl
                   rotate_left
                   · simp only [Act.put, List.setIfInBounds_toArray, List.set_cons_zero, List.set_cons_succ, i64_w, i32_w]
                     rfl
                   refine take_ (i := 4) (N := some 19) (v := ?_) (a' := ?_) #[t_, t_, t_, t_, t_, t_, t_, t_, t_, f_, f_, t_, t_, f_] rfl rfl (take_ofW HT_.out HW_.out (by kernel_rfl)) (fun _ _ _ h => h) (Or.inl ⟨by rfl, ?_⟩) hHeld ?_ ?_
                   rotate_left
                   · rintro w' ⟨s0, s1, s2, s3, s4, s5⟩
                     go_simp
                     with_reducible rfl
                   rotate_left
                   · simp only [Act.put, List.setIfInBounds_toArray, List.set_cons_zero, List.set_cons_succ, i64_w, i32_w]
                     rfl
                   refine take_ (i := 9) (N := some 24) (v := ?_) (a' := ?_) #[t_, t_, t_, t_, t_, t_, t_, t_, t_, t_, f_, t_, t_, f_] rfl rfl (take_ofW HT_.out HW_.out (by kernel_rfl)) (fun _ _ _ h => h) (Or.inl ⟨by rfl, ?_⟩) hHeld ?_ ?_
                   rotate_left
                   · rintro w' ⟨s0, s1, s2, s3, s4, s5⟩
                     go_simp
                     with_reducible rfl
                   rotate_left
                   · simp only [Act.put, List.setIfInBounds_toArray, List.set_cons_zero, List.set_cons_succ, i64_w, i32_w]
                     rfl
                   refine pure_ (i := 10) (N := some 25) (v := ?_) (a' := ?_) #[t_, t_, t_, t_, t_, t_, t_, t_, t_, t_, t_, t_, t_, f_] rfl rfl (any_of HT_.out (by kernel_rfl)) (fun _ _ _ h => h) (Or.inl ⟨by rfl, ?_⟩) ?_ ?_
                   rotate_left
                   · intro w'
                     go_simp
                     with_reducible rfl
                   rotate_left
                   · simp only [Act.put, List.setIfInBounds_toArray, List.set_cons_zero, List.set_cons_succ, i64_w, i32_w]
                     rfl
                   refine pure_ (i := 13) (N := some 28) (v := ?_) (a' := ?_) #[t_, t_, t_, t_, t_, t_, t_, t_, t_, t_, t_, t_, t_, t_] rfl rfl (any_of HT_.out (by kernel_rfl)) (fun _ _ _ h => h) (Or.inl ⟨by rfl, ?_⟩) ?_ ?_
                   rotate_left
                   · intro w'
                     go_simp
                     with_reducible rfl
                   rotate_left
                   · simp only [Act.put, List.setIfInBounds_toArray, List.set_cons_zero, List.set_cons_succ, i64_w, i32_w]
                     rfl
                   refine done_ (done_of HT_.out (by kernel_rfl)) ?_
                   try go_wp2
                   have n0_ := Aside0.mk (Kd.R_drew HO_6.out)
                   have n1_ := Aside0.mk (below_drew1 HB.out)
                   clear HO_6
                   clear HB
                   have HO_6 := n0_
                   have HB := n1_
                   clear n0_ n1_
                   have p592 : 0 ≤ (x7_1 : Int) := of_decide_eq_true (by assumption)
                   have q592 : x7_1 < (l1.length : Int) := of_decide_eq_true (by assumption)
                   obtain ⟨ad592, A592_2, c592_2, e592, hx592_0, hx592_1, hx592_2, hl592_2, hi592_2⟩ := at_T39 HR1.out x7_1 p592 q592
                   have hw592_2 := hx592_2
                   have hw592_1 := hx592_1
                   have hw592_0 := hx592_0
                   obtain rfl : ad590 = ad592 := (by injection e592)
                   replace hx592_0 := (HB.out.cell (World.block_lt_of_cell? w _ hx592_0)).trans hx592_0
                   replace hx592_1 := (HB.out.cell (World.block_lt_of_cell? w _ hx592_1)).trans hx592_1
                   replace hx592_2 := (HB.out.cell (World.block_lt_of_cell? w _ hx592_2)).trans hx592_2
                   have HR592_2 := Aside0.mk hi592_2
                   have HC592_2 := Aside0.mk hl592_2
                   clear hi592_2 hl592_2
                   replace p592 := eq_true p592
                   replace q592 := eq_true q592
                   have p593 : 0 ≤ (x7_1 : Int) := of_decide_eq_true (by assumption)
                   have q593 : x7_1 < (l1.length : Int) := of_decide_eq_true (by assumption)
                   obtain ⟨ad593, A593_2, c593_2, e593, hx593_0, hx593_1, hx593_2, hl593_2, hi593_2⟩ := at_T39 HR1.out x7_1 p593 q593
                   have hw593_2 := hx593_2
                   have hw593_1 := hx593_1
                   have hw593_0 := hx593_0
                   obtain rfl : ad590 = ad593 := (by injection e593)
                   replace hx593_0 := (HB.out.cell (World.block_lt_of_cell? w _ hx593_0)).trans hx593_0
                   replace hx593_1 := (HB.out.cell (World.block_lt_of_cell? w _ hx593_1)).trans hx593_1
                   replace hx593_2 := (HB.out.cell (World.block_lt_of_cell? w _ hx593_2)).trans hx593_2
                   have HR593_2 := Aside0.mk hi593_2
                   have HC593_2 := Aside0.mk hl593_2
                   clear hi593_2 hl593_2
                   replace p593 := eq_true p593
                   replace q593 := eq_true q593
                   have ea_ := Option.some.inj (hx592_2.symm.trans hx593_2)
                   injection ea_ with ea_ en_ ec_
                   subst ea_
                   subst ec_
                   clear en_
                   have p594 : 0 ≤ (x7_1 : Int) := of_decide_eq_true (by assumption)
                   have q594 : x7_1 < (l1.length : Int) := of_decide_eq_true (by assumption)
                   obtain ⟨ad594, A594_2, c594_2, e594, hx594_0, hx594_1, hx594_2, hl594_2, hi594_2⟩ := at_T39 HR1.out x7_1 p594 q594
                   have hw594_2 := hx594_2
                   have hw594_1 := hx594_1
                   have hw594_0 := hx594_0
                   obtain rfl : ad590 = ad594 := (by injection e594)
                   replace hx594_0 := (HB.out.cell (World.block_lt_of_cell? w _ hx594_0)).trans hx594_0
                   replace hx594_1 := (HB.out.cell (World.block_lt_of_cell? w _ hx594_1)).trans hx594_1
                   replace hx594_2 := (HB.out.cell (World.block_lt_of_cell? w _ hx594_2)).trans hx594_2
                   have HR594_2 := Aside0.mk hi594_2
                   have HC594_2 := Aside0.mk hl594_2
                   clear hi594_2 hl594_2
                   replace p594 := eq_true p594
                   replace q594 := eq_true q594
                   have ea_ := Option.some.inj (hx592_2.symm.trans hx594_2)
                   injection ea_ with ea_ en_ ec_
                   subst ea_
                   subst ec_
                   clear en_
                   obtain ⟨i016, hi016, _, hsz16, _⟩ := info_parts info9
                   obtain ⟨A16, hcut16, hA16, hC16⟩ := print_mid_of (P := Try.prog) Value.string (⟨#[]⟩ : ByteArray) 30 9 .i64 .i64 Try.underlying30 hi016 hsz16 A0 c0 l0 ((rd_T39 l1 x7_1).f0) (wrap64 (((rd_T39 l1 x7_1).f0) + ((rd_T39 l1 x7_1).f1))) (of_decide_eq_true (by assumption)) (by first | omega | exact of_decide_eq_true (by assumption)) (of_decide_eq_true (by assumption)) HC0.out
                   have HR595 := Aside0.mk (Kd.C_of_reads (h1 := fun _ => rfl) (hA16 _ (Kd.reads_of_C HR0.out)))
                   have HC595 := Aside0.mk hC16
                   clear hA16 hC16 hi016 hsz16
                   refine start_ (n := 21) (S := fun w' => w'.cell? (ad590.add ((x7_1).toNat * 3)) = some (.int .i64 ((rd_T39 l1 x7_1).f0)) ∧ w'.cell? ⟨(ad590.add ((x7_1).toNat * 3)).block, (ad590.add ((x7_1).toNat * 3)).off + 1, none⟩ = some (.int .i64 ((rd_T39 l1 x7_1).f1)) ∧ w'.cell? ⟨(ad590.add ((x7_1).toNat * 3)).block, (ad590.add ((x7_1).toNat * 3)).off + 2, none⟩ = some (.slice A592_2 ((rd_T39 l1 x7_1).f2).length c592_2) ∧ w'.cell? (ad590.add ((x7_1).toNat * 3)) = some (.int .i64 ((rd_T39 l1 x7_1).f0)) ∧ w'.cell? ⟨(ad590.add ((x7_1).toNat * 3)).block, (ad590.add ((x7_1).toNat * 3)).off + 1, none⟩ = some (.int .i64 ((rd_T39 l1 x7_1).f1)) ∧ w'.cell? ⟨(ad590.add ((x7_1).toNat * 3)).block, (ad590.add ((x7_1).toNat * 3)).off + 2, none⟩ = some (.slice A592_2 ((rd_T39 l1 x7_1).f2).length c592_2) ∧ w'.cell? (ad590.add ((x7_1).toNat * 3)) = some (.int .i64 ((rd_T39 l1 x7_1).f0)) ∧ w'.cell? ⟨(ad590.add ((x7_1).toNat * 3)).block, (ad590.add ((x7_1).toNat * 3)).off + 1, none⟩ = some (.int .i64 ((rd_T39 l1 x7_1).f1)) ∧ w'.cell? ⟨(ad590.add ((x7_1).toNat * 3)).block, (ad590.add ((x7_1).toNat * 3)).off + 2, none⟩ = some (.slice A592_2 ((rd_T39 l1 x7_1).f2).length c592_2)) (ds := []) #[f_, f_, f_, f_, f_, f_, f_, f_, f_, f_, f_, f_, f_, f_, f_, f_, f_, f_, f_, f_, f_] (by kernel_rfl) rfl rfl ⟨((HB.out.cell (World.block_lt_of_cell? w _ hw592_0)).trans hw592_0), ((HB.out.cell (World.block_lt_of_cell? w _ hw592_1)).trans hw592_1), ((HB.out.cell (World.block_lt_of_cell? w _ hw592_2)).trans hw592_2), ((HB.out.cell (World.block_lt_of_cell? w _ hw593_0)).trans hw593_0), ((HB.out.cell (World.block_lt_of_cell? w _ hw593_1)).trans hw593_1), ((HB.out.cell (World.block_lt_of_cell? w _ hw593_2)).trans hw593_2), ((HB.out.cell (World.block_lt_of_cell? w _ hw594_0)).trans hw594_0), ((HB.out.cell (World.block_lt_of_cell? w _ hw594_1)).trans hw594_1), ((HB.out.cell (World.block_lt_of_cell? w _ hw594_2)).trans hw594_2)⟩ (fun hHeld => ?_); refine with_tabW spec_l13Do.tab7 spec_l13Do.bits7 (fun HT_ HW_ => ?_)
                   generalize w14.drew = w15 at HO_6 HB HR592_2 HR593_2 HR594_2 HR595 hx592_0 hx592_1 hx592_2 hx593_0 hx593_1 hx593_2 hx594_0 hx594_1 hx594_2 hHeld ⊢
                   refine pure_ (i := 0) (N := some 29) (v := ?_) (a' := ?_) #[t_, f_, f_, f_, f_, f_, f_, f_, f_, f_, f_, f_, f_, f_, f_, f_, f_, f_, f_, f_, f_] rfl rfl (any_of HT_.out (by kernel_rfl)) (fun _ _ _ h => h) (Or.inl ⟨by rfl, ?_⟩) ?_ ?_
                   rotate_left
                   · intro w'
                     go_simp
                     with_reducible rfl
                   rotate_left
                   · simp only [Act.put, List.setIfInBounds_toArray, List.set_cons_zero, List.set_cons_succ, i64_w, i32_w]
                     rfl
                   refine pure_ (i := 1) (N := some 30) (v := ?_) (a' := ?_) #[t_, t_, f_, f_, f_, f_, f_, f_, f_, f_, f_, f_, f_, f_, f_, f_, f_, f_, f_, f_, f_] rfl rfl (any_of HT_.out (by kernel_rfl)) (fun _ _ _ h => h) (Or.inl ⟨by rfl, ?_⟩) ?_ ?_
                   rotate_left
                   · intro w'
                     go_simp
                     with_reducible rfl
                   rotate_left
                   · simp only [Act.put, List.setIfInBounds_toArray, List.set_cons_zero, List.set_cons_succ, i64_w, i32_w]
                     rfl
                   refine pure_ (i := 2) (N := some 31) (v := ?_) (a' := ?_) #[t_, t_, t_, f_, f_, f_, f_, f_, f_, f_, f_, f_, f_, f_, f_, f_, f_, f_, f_, f_, f_] rfl rfl (any_of HT_.out (by kernel_rfl)) (fun _ _ _ h => h) (Or.inl ⟨by rfl, ?_⟩) ?_ ?_
                   rotate_left
                   · intro w'
                     go_simp
                     with_reducible rfl
                   rotate_left
                   · simp only [Act.put, List.setIfInBounds_toArray, List.set_cons_zero, List.set_cons_succ, i64_w, i32_w]
                     rfl
                   refine pure_ (i := 3) (N := some 32) (v := ?_) (a' := ?_) #[t_, t_, t_, t_, f_, f_, f_, f_, f_, f_, f_, f_, f_, f_, f_, f_, f_, f_, f_, f_, f_] rfl rfl (any_of HT_.out (by kernel_rfl)) (fun _ _ _ h => h) (Or.inl ⟨by rfl, ?_⟩) ?_ ?_
                   rotate_left
                   · intro w'
                     go_simp
                     with_reducible rfl
                   rotate_left
                   · simp only [Act.put, List.setIfInBounds_toArray, List.set_cons_zero, List.set_cons_succ, i64_w, i32_w]
                     rfl
                   refine pure_ (i := 4) (N := some 33) (v := ?_) (a' := ?_) #[t_, t_, t_, t_, t_, f_, f_, f_, f_, f_, f_, f_, f_, f_, f_, f_, f_, f_, f_, f_, f_] rfl rfl (any_of HT_.out (by kernel_rfl)) (fun _ _ _ h => h) (Or.inl ⟨by rfl, ?_⟩) ?_ ?_
                   rotate_left
                   · intro w'
                     go_simp
                     with_reducible rfl
                   rotate_left
                   · simp only [Act.put, List.setIfInBounds_toArray, List.set_cons_zero, List.set_cons_succ, i64_w, i32_w]
                     rfl
                   refine pure_ (i := 5) (N := some 34) (v := ?_) (a' := ?_) #[t_, t_, t_, t_, t_, t_, f_, f_, f_, f_, f_, f_, f_, f_, f_, f_, f_, f_, f_, f_, f_] rfl rfl (any_of HT_.out (by kernel_rfl)) (fun _ _ _ h => h) (Or.inl ⟨by rfl, ?_⟩) ?_ ?_
                   rotate_left
                   · intro w'
                     go_simp
                     with_reducible rfl
                   rotate_left
                   · simp only [Act.put, List.setIfInBounds_toArray, List.set_cons_zero, List.set_cons_succ, i64_w, i32_w]
                     rfl
                   refine pure_ (i := 7) (N := some 36) (v := ?_) (a' := ?_) #[t_, t_, t_, t_, t_, t_, f_, t_, f_, f_, f_, f_, f_, f_, f_, f_, f_, f_, f_, f_, f_] rfl rfl (any_of HT_.out (by kernel_rfl)) (fun _ _ _ h => h) (Or.inl ⟨by rfl, ?_⟩) ?_ ?_
                   rotate_left
                   · intro w'
                     go_simp
                     with_reducible rfl
                   rotate_left
                   · simp only [Act.put, List.setIfInBounds_toArray, List.set_cons_zero, List.set_cons_succ, i64_w, i32_w]
                     rfl
                   refine pure_ (i := 8) (N := some 37) (v := ?_) (a' := ?_) #[t_, t_, t_, t_, t_, t_, f_, t_, t_, f_, f_, f_, f_, f_, f_, f_, f_, f_, f_, f_, f_] rfl rfl (any_of HT_.out (by kernel_rfl)) (fun _ _ _ h => h) (Or.inl ⟨by rfl, ?_⟩) ?_ ?_
                   rotate_left
                   · intro w'
                     go_simp
                     with_reducible rfl
                   rotate_left
                   · simp only [Act.put, List.setIfInBounds_toArray, List.set_cons_zero, List.set_cons_succ, i64_w, i32_w]
                     rfl
                   refine pure_ (i := 9) (N := some 38) (v := ?_) (a' := ?_) #[t_, t_, t_, t_, t_, t_, f_, t_, t_, t_, f_, f_, f_, f_, f_, f_, f_, f_, f_, f_, f_] rfl rfl (any_of HT_.out (by kernel_rfl)) (fun _ _ _ h => h) (Or.inl ⟨by rfl, ?_⟩) ?_ ?_
                   rotate_left
                   · intro w'
                     go_simp
                     with_reducible rfl
                   rotate_left
                   · simp only [Act.put, List.setIfInBounds_toArray, List.set_cons_zero, List.set_cons_succ, i64_w, i32_w]
                     rfl
                   refine pure_ (i := 10) (N := some 39) (v := ?_) (a' := ?_) #[t_, t_, t_, t_, t_, t_, f_, t_, t_, t_, t_, f_, f_, f_, f_, f_, f_, f_, f_, f_, f_] rfl rfl (any_of HT_.out (by kernel_rfl)) (fun _ _ _ h => h) (Or.inl ⟨by rfl, ?_⟩) ?_ ?_
                   rotate_left
                   · intro w'
                     go_simp
                     with_reducible rfl
                   rotate_left
                   · simp only [Act.put, List.setIfInBounds_toArray, List.set_cons_zero, List.set_cons_succ, i64_w, i32_w]
                     rfl
                   refine pure_ (i := 12) (N := some 41) (v := ?_) (a' := ?_) #[t_, t_, t_, t_, t_, t_, f_, t_, t_, t_, t_, f_, t_, f_, f_, f_, f_, f_, f_, f_, f_] rfl rfl (any_of HT_.out (by kernel_rfl)) (fun _ _ _ h => h) (Or.inl ⟨by rfl, ?_⟩) ?_ ?_
                   rotate_left
                   · intro w'
                     go_simp
                     with_reducible rfl
                   rotate_left
                   · simp only [Act.put, List.setIfInBounds_toArray, List.set_cons_zero, List.set_cons_succ, i64_w, i32_w]
                     rfl
                   refine pure_ (i := 13) (N := some 42) (v := ?_) (a' := ?_) #[t_, t_, t_, t_, t_, t_, f_, t_, t_, t_, t_, f_, t_, t_, f_, f_, f_, f_, f_, f_, f_] rfl rfl (any_of HT_.out (by kernel_rfl)) (fun _ _ _ h => h) (Or.inl ⟨by rfl, ?_⟩) ?_ ?_
                   rotate_left
                   · intro w'
                     go_simp
                     with_reducible rfl
                   rotate_left
                   · simp only [Act.put, List.setIfInBounds_toArray, List.set_cons_zero, List.set_cons_succ, i64_w, i32_w]
                     rfl
                   refine pure_ (i := 14) (N := some 43) (v := ?_) (a' := ?_) #[t_, t_, t_, t_, t_, t_, f_, t_, t_, t_, t_, f_, t_, t_, t_, f_, f_, f_, f_, f_, f_] rfl rfl (any_of HT_.out (by kernel_rfl)) (fun _ _ _ h => h) (Or.inl ⟨by rfl, ?_⟩) ?_ ?_
                   rotate_left
                   · intro w'
                     go_simp
                     with_reducible rfl
                   rotate_left
                   · simp only [Act.put, List.setIfInBounds_toArray, List.set_cons_zero, List.set_cons_succ, i64_w, i32_w]
                     rfl
                   refine pure_ (i := 15) (N := some 44) (v := ?_) (a' := ?_) #[t_, t_, t_, t_, t_, t_, f_, t_, t_, t_, t_, f_, t_, t_, t_, t_, f_, f_, f_, f_, f_] rfl rfl (any_of HT_.out (by kernel_rfl)) (fun _ _ _ h => h) (Or.inl ⟨by rfl, ?_⟩) ?_ ?_
                   rotate_left
                   · intro w'
                     go_simp
                     with_reducible rfl
                   rotate_left
                   · simp only [Act.put, List.setIfInBounds_toArray, List.set_cons_zero, List.set_cons_succ, i64_w, i32_w]
                     rfl
                   refine take_ (i := 6) (N := some 35) (v := ?_) (a' := ?_) #[t_, t_, t_, t_, t_, t_, t_, t_, t_, t_, t_, f_, t_, t_, t_, t_, f_, f_, f_, f_, f_] rfl rfl (take_ofW HT_.out HW_.out (by kernel_rfl)) (fun _ _ _ h => h) (Or.inl ⟨by rfl, ?_⟩) hHeld ?_ ?_
                   rotate_left
                   · rintro w' ⟨s0, s1, s2, s3, s4, s5, s6, s7, s8⟩
                     go_simp
                     with_reducible rfl
                   rotate_left
                   · simp only [Act.put, List.setIfInBounds_toArray, List.set_cons_zero, List.set_cons_succ, i64_w, i32_w]
                     rfl
                   refine take_ (i := 11) (N := some 40) (v := ?_) (a' := ?_) #[t_, t_, t_, t_, t_, t_, t_, t_, t_, t_, t_, t_, t_, t_, t_, t_, f_, f_, f_, f_, f_] rfl rfl (take_ofW HT_.out HW_.out (by kernel_rfl)) (fun _ _ _ h => h) (Or.inl ⟨by rfl, ?_⟩) hHeld ?_ ?_
                   rotate_left
                   · rintro w' ⟨s0, s1, s2, s3, s4, s5, s6, s7, s8⟩
                     go_simp
                     with_reducible rfl
                   rotate_left
                   · simp only [Act.put, List.setIfInBounds_toArray, List.set_cons_zero, List.set_cons_succ, i64_w, i32_w]
                     rfl
                   refine take_ (i := 16) (N := some 45) (v := ?_) (a' := ?_) #[t_, t_, t_, t_, t_, t_, t_, t_, t_, t_, t_, t_, t_, t_, t_, t_, t_, f_, f_, f_, f_] rfl rfl (take_ofW HT_.out HW_.out (by kernel_rfl)) (fun _ _ _ h => h) (Or.inl ⟨by rfl, ?_⟩) hHeld ?_ ?_
                   rotate_left
                   · rintro w' ⟨s0, s1, s2, s3, s4, s5, s6, s7, s8⟩
                     go_simp
                     with_reducible rfl
                   rotate_left
                   · simp only [Act.put, List.setIfInBounds_toArray, List.set_cons_zero, List.set_cons_succ, i64_w, i32_w]
                     rfl
                   refine pure_ (i := 17) (N := some 46) (v := ?_) (a' := ?_) #[t_, t_, t_, t_, t_, t_, t_, t_, t_, t_, t_, t_, t_, t_, t_, t_, t_, t_, f_, f_, f_] rfl rfl (any_of HT_.out (by kernel_rfl)) (fun _ _ _ h => h) (Or.inl ⟨by rfl, ?_⟩) ?_ ?_
                   rotate_left
                   · intro w'
                     go_simp
                     with_reducible rfl
                   rotate_left
                   · simp only [Act.put, List.setIfInBounds_toArray, List.set_cons_zero, List.set_cons_succ, i64_w, i32_w]
                     rfl
                   refine pure_ (i := 18) (N := some 47) (v := ?_) (a' := ?_) #[t_, t_, t_, t_, t_, t_, t_, t_, t_, t_, t_, t_, t_, t_, t_, t_, t_, t_, t_, f_, f_] rfl rfl (any_of HT_.out (by kernel_rfl)) (fun _ _ _ h => h) (Or.inl ⟨by rfl, ?_⟩) ?_ ?_
                   rotate_left
                   · intro w'
                     go_simp
                     with_reducible rfl
                   rotate_left
                   · simp only [Act.put, List.setIfInBounds_toArray, List.set_cons_zero, List.set_cons_succ, i64_w, i32_w]
                     rfl
                   refine one_ (i := 19) (N := some 48) #[t_, t_, t_, t_, t_, t_, t_, t_, t_, t_, t_, t_, t_, t_, t_, t_, t_, t_, t_, t_, f_] rfl rfl (one_of HT_.out (by kernel_rfl)) (by decide) (fun K hK => ?_)
                   refine Kd.R_append_rows_step Kd.string (w0 := w) w.heap.size (by rfl) (.tmp 29) (.tmp 47) 30 9 (.string ⟨#[]⟩) 16 rfl Try.underlying30 info9 rfl (by decide) (by omega) u6 x6_1 ((l0.take ((wrap64 (((rd_T39 l1 x7_1).f0) + ((rd_T39 l1 x7_1).f1))) : Int).toNat).drop (((rd_T39 l1 x7_1).f0) : Int).toNat) _ _ _ (fun _ => True) (fun _ => False) rfl rfl ?aO ?aR (fun _ _ h => h) (fun _ h => h.elim) ?aF ?aB ?aS ?aL ?_
                   (case aR => first | (rw [← show ((l0.take ((wrap64 (((rd_T39 l1 x7_1).f0) + ((rd_T39 l1 x7_1).f1))) : Int).toNat).drop (((rd_T39 l1 x7_1).f0) : Int).toNat).length = ((wrap64 (((rd_T39 l1 x7_1).f0) + ((rd_T39 l1 x7_1).f1))).toNat - ((rd_T39 l1 x7_1).f0).toNat) from (by rw [List.length_drop, List.length_take]; have h_ : ((wrap64 (((rd_T39 l1 x7_1).f0) + ((rd_T39 l1 x7_1).f1))) : Int) ≤ (l0.length : Int) := of_decide_eq_true (by assumption); omega)]; repeat (first | exact (Kd.C_below HR595.out HB.out) | (with_reducible refine Kd.C_alloc ?_ _) | (with_reducible refine Kd.C_drewN ?_ _) | (with_reducible refine Kd.C_drew ?_))) | (repeat (first | exact (Kd.C_below HR595.out HB.out) | (with_reducible refine Kd.C_alloc ?_ _) | (with_reducible refine Kd.C_drewN ?_ _) | (with_reducible refine Kd.C_drew ?_))))
                   (case aB => exact (by repeat (first | (with_reducible first | exact HB.out | apply below_alloc | apply pw_below_drewN | apply below_drew1) | exact HB.out)))
                   (case aF => exact (fun _ _ => trivial))
                   (case aO => exact (by (with_reducible repeat (first | apply Kd.R_alloc | apply Kd.R_drewN | apply Kd.R_drew)); exact HO_6.out))
                   (case aS => exact (below_size (by repeat (first | (with_reducible first | exact HB.out | apply below_alloc | apply pw_below_drewN | apply below_drew1) | exact HB.out))))
                   (case aL => have := LMc12.out; have hlx_ := (show ((l0.take ((wrap64 (((rd_T39 l1 x7_1).f0) + ((rd_T39 l1 x7_1).f1))) : Int).toNat).drop (((rd_T39 l1 x7_1).f0) : Int).toNat).length = ((wrap64 (((rd_T39 l1 x7_1).f0) + ((rd_T39 l1 x7_1).f1))).toNat - ((rd_T39 l1 x7_1).f0).toNat) from (by rw [List.length_drop, List.length_take]; have h_ : ((wrap64 (((rd_T39 l1 x7_1).f0) + ((rd_T39 l1 x7_1).f1))) : Int) ≤ (l0.length : Int) := of_decide_eq_true (by assumption); omega)); omega)
                   intro v597 w17 ho hb hg hat
                   rw [← Ny596.out] at ho
                   have n0_ := Aside0.mk (hb)
                   have n1_ := Aside0.mk (ho)
                   clear HB
                   clear HO_6
                   have HB := n0_
                   have HO598 := n1_
                   clear n0_ n1_
                   clear ho hb hg hat
                   refine hK.out _ _ ⟨((HB.out.cell (World.block_lt_of_cell? w _ hw592_0)).trans hw592_0), ((HB.out.cell (World.block_lt_of_cell? w _ hw592_1)).trans hw592_1), ((HB.out.cell (World.block_lt_of_cell? w _ hw592_2)).trans hw592_2), ((HB.out.cell (World.block_lt_of_cell? w _ hw593_0)).trans hw593_0), ((HB.out.cell (World.block_lt_of_cell? w _ hw593_1)).trans hw593_1), ((HB.out.cell (World.block_lt_of_cell? w _ hw593_2)).trans hw593_2), ((HB.out.cell (World.block_lt_of_cell? w _ hw594_0)).trans hw594_0), ((HB.out.cell (World.block_lt_of_cell? w _ hw594_1)).trans hw594_1), ((HB.out.cell (World.block_lt_of_cell? w _ hw594_2)).trans hw594_2)⟩ (fun hHeld => ?_)
                   clear hK K
                   refine norm_ (a' := ?_) ?_ ?_
                   rotate_left
                   · show Act.put _ (some 48) _ = _
                     simp only [Act.put, List.setIfInBounds_toArray, List.set_cons_zero, List.set_cons_succ, i64_w, i32_w]
                     rfl
                   refine pure_ (i := 20) (N := some 6) (v := ?_) (a' := ?_) #[t_, t_, t_, t_, t_, t_, t_, t_, t_, t_, t_, t_, t_, t_, t_, t_, t_, t_, t_, t_, t_] rfl rfl (any_of HT_.out (by kernel_rfl)) (fun _ _ _ h => h) (Or.inl ⟨by rfl, ?_⟩) ?_ ?_
                   rotate_left
                   · intro w'
                     go_simp
                     with_reducible rfl
                   rotate_left
                   · simp only [Act.put, List.setIfInBounds_toArray, List.set_cons_zero, List.set_cons_succ, i64_w, i32_w]
                     rfl
                   refine done_ (done_of HT_.out (by kernel_rfl)) ?_
                   have p599 : 0 ≤ (x7_1 : Int) := of_decide_eq_true (by assumption)
                   have q599 : x7_1 < (l1.length : Int) := of_decide_eq_true (by assumption)
                   obtain ⟨ad599, A599_2, c599_2, e599, hx599_0, hx599_1, hx599_2, hl599_2, hi599_2⟩ := at_T39 HR1.out x7_1 p599 q599
                   obtain rfl : ad590 = ad599 := (by injection e599)
                   (try (have ea_ := Option.some.inj (hw591_0.symm.trans hx599_0); injection ea_ with ea_ en_ ec_; subst ea_; subst ec_; clear en_))
                   (try (have ea_ := Option.some.inj (hw592_0.symm.trans hx599_0); injection ea_ with ea_ en_ ec_; subst ea_; subst ec_; clear en_))
                   (try (have ea_ := Option.some.inj (hw593_0.symm.trans hx599_0); injection ea_ with ea_ en_ ec_; subst ea_; subst ec_; clear en_))
                   (try (have ea_ := Option.some.inj (hw594_0.symm.trans hx599_0); injection ea_ with ea_ en_ ec_; subst ea_; subst ec_; clear en_))
                   replace hx599_0 := (HB.out.cell (World.block_lt_of_cell? w _ hx599_0)).trans hx599_0
                   (try (have ea_ := Option.some.inj (hw591_1.symm.trans hx599_1); injection ea_ with ea_ en_ ec_; subst ea_; subst ec_; clear en_))
                   (try (have ea_ := Option.some.inj (hw592_1.symm.trans hx599_1); injection ea_ with ea_ en_ ec_; subst ea_; subst ec_; clear en_))
                   (try (have ea_ := Option.some.inj (hw593_1.symm.trans hx599_1); injection ea_ with ea_ en_ ec_; subst ea_; subst ec_; clear en_))
                   (try (have ea_ := Option.some.inj (hw594_1.symm.trans hx599_1); injection ea_ with ea_ en_ ec_; subst ea_; subst ec_; clear en_))
                   replace hx599_1 := (HB.out.cell (World.block_lt_of_cell? w _ hx599_1)).trans hx599_1
                   (try (have ea_ := Option.some.inj (hw591_2.symm.trans hx599_2); injection ea_ with ea_ en_ ec_; subst ea_; subst ec_; clear en_))
                   (try (have ea_ := Option.some.inj (hw592_2.symm.trans hx599_2); injection ea_ with ea_ en_ ec_; subst ea_; subst ec_; clear en_))
                   (try (have ea_ := Option.some.inj (hw593_2.symm.trans hx599_2); injection ea_ with ea_ en_ ec_; subst ea_; subst ec_; clear en_))
                   (try (have ea_ := Option.some.inj (hw594_2.symm.trans hx599_2); injection ea_ with ea_ en_ ec_; subst ea_; subst ec_; clear en_))
                   replace hx599_2 := (HB.out.cell (World.block_lt_of_cell? w _ hx599_2)).trans hx599_2
                   have HR599_2 := Aside0.mk hi599_2
                   have HC599_2 := Aside0.mk hl599_2
                   clear hi599_2 hl599_2
                   replace p599 := eq_true p599
                   replace q599 := eq_true q599
                   try go_wp2_with (first | ((with_reducible refine gate_builtin (b := .append) (xs := #[.tmp 49, .tmp 54]) rfl ?_); at_builtin; refine Kd.R_append_rows Kd.string (w0 := w) w.heap.size rfl (.tmp 49) (.tmp 54) 30 9 (.string ⟨#[]⟩) 16 rfl Try.underlying30 info9 rfl (by decide) (by omega) v597 y596 ((rd_T39 l1 x7_1).f2) _ _ _ (fun _ => True) (fun _ => False) rfl rfl ?aO ?aR (fun _ _ h => h) (fun _ h => h.elim) ?aF ?aB ?aS ?aL ?_; (case aR => repeat (first | exact (Kd.C_below HR599_2.out HB.out) | (with_reducible refine Kd.C_alloc ?_ _) | (with_reducible refine Kd.C_drewN ?_ _) | (with_reducible refine Kd.C_drew ?_))); (case aB => exact (by repeat (first | (with_reducible first | exact HB.out | apply below_alloc | apply pw_below_drewN | apply below_drew1) | exact HB.out))); (case aF => exact (fun _ _ => trivial)); (case aO => exact (by (with_reducible repeat (first | apply Kd.R_alloc | apply Kd.R_drewN | apply Kd.R_drew)); exact HO598.out)); (case aS => exact (below_size (by repeat (first | (with_reducible first | exact HB.out | apply below_alloc | apply pw_below_drewN | apply below_drew1) | exact HB.out)))); (case aL => have := LMc13.out; omega); intro v601 w18 ho hb hg hat; rw [← Ny600.out] at ho; have n0_ := Aside0.mk (hb); have n1_ := Aside0.mk (ho); clear HB; clear HO598; have HB := n0_; have HO602 := n1_; clear n0_ n1_; clear ho hb hg hat))
                   go_roundg k1
                   case measure => have := HK1.out; omega
                   case rel => exact ⟨(y600), (wrap64 (x7_1 + 1)), (by first | rfl | (simp; done) | (simp [*]; done)), H', ⟨by have := HK1.out; omega⟩, ⟨by (with_reducible repeat (first | apply Kd.R_alloc | apply Kd.R_drewN | apply Kd.R_drew)); exact HO602.out⟩, ⟨by repeat (first | (with_reducible first | exact HB.out | apply below_alloc | apply pw_below_drewN | apply below_drew1) | exact HB.out)⟩⟩
                 · rw [if_neg c13] at H
                   exact absurd H (by simp)
               · rw [if_neg c12] at H
                 exact absurd H (by simp)
             · rw [if_neg c11] at H
               exact absurd H (by simp)
           · rw [if_neg c10] at H
             exact absurd H (by simp)
         · rw [if_neg c9] at H
           exact absurd H (by simp)
     · rw [if_neg c6] at H
       exact absurd H (by simp)
   · rw [if_neg c5] at H
     have c5b0 : decide (x7_1 < (l1.length : Int)) = false := decide_eq_false c5
     clear c5
     replace H := Option.bind_eq_some_iff.mp H
     obtain ⟨t603, A190, H⟩ := H
     replace H : (if t603 = true then (some (x6_1, true)) else (some (([] : List ByteArray), false))) = some (r1, r2) := H
     have A19 := Aside0.mk A190
     clear A190
     by_cases c20 : t603 = true
     · subst c20
       have H1 : (some (x6_1, true)) = some (r1, r2) := by rw [if_pos rfl] at H; exact H
       clear H
       have H := H1
       clear H1
       simp only [Option.some.injEq, Prod.mk.injEq] at H
       obtain ⟨rfl, rfl⟩ := H
       obtain ⟨Ao21, co21, eo21⟩ := Kd.R_slice HO_6.out
       subst eo21
       go_wp2_with (first | ((with_reducible refine gate_callee (f := 71) rfl ?_); refine goesL_ (some 57) rfl rfl Try.func71 (by kernel_rfl) rfl #[.slice Ao21 x6_1.length co21] rfl (by (try simp only [List.map_toArray, List.map_cons, List.map_nil]); first | done | rfl | (simp only [List.length_drop, List.length_take]; rfl)) ?_; (with_reducible refine (spec_l1Ok.calls k1 _ _ x6_1 true _ ?side1 ?side2 A19.out).mono ?_); (case side1 => repeat (first | exact (Kd.R_reads' HO_6.out).2.2 | (with_reducible refine Kd.C_alloc ?_ _) | (with_reducible refine Kd.C_drewN ?_ _) | (with_reducible refine Kd.C_drew ?_))); (case side2 => exact (Kd.R_reads' HO_6.out).2.1); rintro e w' ⟨rfl, ⟨nd, rfl⟩⟩; refine ⟨_, rfl, ?_⟩))
       go_ret2
       exact ⟨_, by first | rfl | (simp [errW_none, errW_some] <;> rfl) | (simp [*, errW_none, errW_some] <;> rfl), by (with_reducible repeat (first | apply Kd.R_alloc | apply Kd.R_drewN | apply Kd.R_drew)); exact HO_6.out, by repeat (first | (with_reducible first | exact HB.out | apply below_alloc | apply pw_below_drewN | apply below_drew1) | exact HB.out)⟩
     · replace c20 := Bool.eq_false_iff.mpr c20
       subst c20
       have H1 : (some (([] : List ByteArray), false)) = some (r1, r2) := by rw [if_neg (show ¬ (false = true) by decide)] at H; exact H
       clear H
       have H := H1
       clear H1
       simp only [Option.some.injEq, Prod.mk.injEq] at H
       obtain ⟨rfl, rfl⟩ := H
       obtain ⟨Ao22, co22, eo22⟩ := Kd.R_slice HO_6.out
       subst eo22
       go_wp2_with (first | ((with_reducible refine gate_callee (f := 71) rfl ?_); refine goesL_ (some 57) rfl rfl Try.func71 (by kernel_rfl) rfl #[.slice Ao22 x6_1.length co22] rfl (by (try simp only [List.map_toArray, List.map_cons, List.map_nil]); first | done | rfl | (simp only [List.length_drop, List.length_take]; rfl)) ?_; (with_reducible refine (spec_l1Ok.calls k1 _ _ x6_1 false _ ?side1 ?side2 A19.out).mono ?_); (case side1 => repeat (first | exact (Kd.R_reads' HO_6.out).2.2 | (with_reducible refine Kd.C_alloc ?_ _) | (with_reducible refine Kd.C_drewN ?_ _) | (with_reducible refine Kd.C_drew ?_))); (case side2 => exact (Kd.R_reads' HO_6.out).2.1); rintro e w' ⟨rfl, ⟨nd, rfl⟩⟩; refine ⟨_, rfl, ?_⟩))
       go_ret2
       exact ⟨_, by first | rfl | (simp [errW_none, errW_some] <;> rfl) | (simp [*, errW_none, errW_some] <;> rfl), by first | exact Kd.R_nil _ _ _ _ _ | exact Kd.N_nil _ _ _ _ _ | exact Kd.V_nil _ _ _ _ _ | exact Kd.Q_nil _ _ _ _ _ | exact Kd.S_nil _ _ _ _ _, by repeat (first | (with_reducible first | exact HB.out | apply below_alloc | apply pw_below_drewN | apply below_drew1) | exact HB.out)⟩
end Go.Proofs.Ytfnhjaiioojbkaa.Q
end
section
namespace Go.Proofs.Ytfnhjaiioojbkaa.Q
open Go.RowKit Go.Proofs.YtfnhjaiioojbkaaW.PrintWords Go.Proofs.YtfnhjaiioojbkaaW.PrintLast Go.Proofs.YtfnhjaiioojbkaaW.PrintMore
attribute [local go_sem] max2_int min2_int max_two min_two max_three min_three max_four min_four   -- for this text's walks alone
set_option linter.unusedVariables false
set_option linter.unusedSimpArgs false
def spec_DeltaDo.f (k : Nat) (l0 : List ByteArray) (l1 : List (S39)) : Option (List ByteArray × Bool) := (spec_l1Ok.f k l0).bind fun t604 => (if t604 = true then ((spec_l13Ok.f k l1).bind fun t605 => (if t605 = true then ((spec_l13Do.f k l0 l1).bind fun bt606 => (some (bt606.1, bt606.2))) else (some (([] : List ByteArray), false)))) else (some (([] : List ByteArray), false)))
theorem spec_DeltaDo.mono : ∀ a0 a1 k, LeO (spec_DeltaDo.f k a0 a1) (spec_DeltaDo.f (k + 1) a0 a1) := by
 intro a0 a1 k
 unfold spec_DeltaDo.f
 repeat' first
  | (with_reducible exact spec_l13Do.mono _ _ _)
  | (with_reducible exact spec_l13Ok.mono _ _)
  | (with_reducible exact spec_l1Ok.mono _ _)
  | (with_reducible exact LeO.refl _)
  | (with_reducible exact LeO.none _)
  | (with_reducible refine LeO.ite ?_ ?_)
  | (with_reducible refine LeO.bind ?_ (fun _ => ?_))
  | exact spec_l13Do.mono _ _ _
  | exact spec_l13Ok.mono _ _
  | exact spec_l1Ok.mono _ _
  | exact LeO.none _
  | refine LeO.ite ?_ ?_
  | refine LeO.bind ?_ (fun _ => ?_)
set_option maxHeartbeats 8000000 in
set_option maxRecDepth 100000 in
theorem spec_DeltaDo.calls (k : Nat) (A0 : Option Addr) (c0 : Nat) (l0 : List ByteArray) (A1 : Option Addr) (c1 : Nat) (l1 : List (S39)) (r1 : List ByteArray) (r2 : Bool) (w : World) (hr0 : Kd.C Kd.string w A0 l0.length l0) (hc0 : l0.length ≤ c0) (hr1 : Kd.C k39 w A1 l1.length l1) (hc1 : l1.length ≤ c1) (h : spec_DeltaDo.f k l0 l1 = some (r1, r2)) :
 Calls Try.prog 35 #[.slice A0 l0.length c0, .slice A1 l1.length c1] w fun e w' => ∃ v0_ : Value, e = .returned (.tuple #[v0_, .bool r2]) ∧ Kd.R Kd.string 9 w' w.heap.size (fun _ => True) v0_ r1 ∧ Below w.heap.size w w' := by
 have HR0 := Aside0.mk hr0
 have HC0 := Aside0.mk hc0
 clear hr0 hc0
 have HR1 := Aside0.mk hr1
 have HC1 := Aside0.mk hc1
 clear hr1 hc1
 have HB := Aside0.mk (Below.refl w.heap.size w)
 have H : ((spec_l1Ok.f k l0).bind fun t604 => (if t604 = true then ((spec_l13Ok.f k l1).bind fun t605 => (if t605 = true then ((spec_l13Do.f k l0 l1).bind fun bt606 => (some (bt606.1, bt606.2))) else (some (([] : List ByteArray), false)))) else (some (([] : List ByteArray), false)))) = some (r1, r2) := h
 clear h
 replace H := Option.bind_eq_some_iff.mp H
 obtain ⟨t604, A30, H⟩ := H
 replace H : (if t604 = true then ((spec_l13Ok.f k l1).bind fun t605 => (if t605 = true then ((spec_l13Do.f k l0 l1).bind fun bt606 => (some (bt606.1, bt606.2))) else (some (([] : List ByteArray), false)))) else (some (([] : List ByteArray), false))) = some (r1, r2) := H
 have A3 := Aside0.mk A30
 clear A30
 by_cases c4 : t604 = true
 · subst c4
   have H1 : ((spec_l13Ok.f k l1).bind fun t605 => (if t605 = true then ((spec_l13Do.f k l0 l1).bind fun bt606 => (some (bt606.1, bt606.2))) else (some (([] : List ByteArray), false)))) = some (r1, r2) := by rw [if_pos rfl] at H; exact H
   clear H
   have H := H1
   clear H1
   replace H := Option.bind_eq_some_iff.mp H
   obtain ⟨t605, A50, H⟩ := H
   replace H : (if t605 = true then ((spec_l13Do.f k l0 l1).bind fun bt606 => (some (bt606.1, bt606.2))) else (some (([] : List ByteArray), false))) = some (r1, r2) := H
   have A5 := Aside0.mk A50
   clear A50
   by_cases c6 : t605 = true
   · subst c6
     have H1 : ((spec_l13Do.f k l0 l1).bind fun bt606 => (some (bt606.1, bt606.2))) = some (r1, r2) := by rw [if_pos rfl] at H; exact H
     clear H
     have H := H1
     clear H1
     replace H := Option.bind_eq_some_iff.mp H
     obtain ⟨⟨t606, t607⟩, A70, H⟩ := H
     replace H : (some (t606, t607)) = some (r1, r2) := H
     have A7 := Aside0.mk A70
     clear A70
     simp only [Option.some.injEq, Prod.mk.injEq] at H
     obtain ⟨rfl, rfl⟩ := H
     go_enter Try.func35, Try.ntmps35
     go_wp2_with (first | ((with_reducible refine gate_callee (f := 71) rfl ?_); refine goesL_ (some 7) rfl rfl Try.func71 (by kernel_rfl) rfl #[.slice A0 l0.length c0] rfl (by (try simp only [List.map_toArray, List.map_cons, List.map_nil]); first | done | rfl | (simp only [List.length_drop, List.length_take]; rfl)) ?_; (with_reducible refine (spec_l1Ok.calls k _ _ l0 true _ ?side1 ?side2 A3.out).mono ?_); (case side1 => repeat (first | exact HR0.out | (with_reducible refine Kd.C_alloc ?_ _) | (with_reducible refine Kd.C_drewN ?_ _) | (with_reducible refine Kd.C_drew ?_))); (case side2 => exact HC0.out); rintro e w' ⟨rfl, ⟨nd, rfl⟩⟩; refine ⟨_, rfl, ?_⟩) | (go_at_call 61; (with_reducible refine (spec_l13Ok.calls k _ _ l1 true _ ?side1 ?side2 A5.out).mono ?_); (case side1 => repeat (first | exact HR1.out | (with_reducible refine Kd.C_alloc ?_ _) | (with_reducible refine Kd.C_drewN ?_ _) | (with_reducible refine Kd.C_drew ?_))); (case side2 => exact HC1.out); rintro e w8 ⟨rfl, hb⟩; have n0_ := Aside0.mk (below_step (by repeat (first | (with_reducible first | exact HB.out | apply below_alloc | apply pw_below_drewN | apply below_drew1) | exact HB.out)) hb); clear HB; have HB := n0_; clear n0_; (try clear hb); (try clear hb2); (try clear hk); (try clear hi)) | ((with_reducible refine gate_callee (f := 83) rfl ?_); refine goesL_ (some 16) rfl rfl Try.func83 (by kernel_rfl) rfl #[.slice A0 l0.length c0, .slice A1 l1.length c1] rfl (by (try simp only [List.map_toArray, List.map_cons, List.map_nil]); first | done | rfl | (simp only [List.length_drop, List.length_take]; rfl)) ?_; (with_reducible refine (spec_l13Do.calls k _ _ l0 _ _ l1 t606 t607 _ ?side1 ?side2 ?side3 ?side4 A7.out).mono ?_); (case side1 => repeat (first | exact (Kd.C_below HR0.out HB.out) | (with_reducible refine Kd.C_alloc ?_ _) | (with_reducible refine Kd.C_drewN ?_ _) | (with_reducible refine Kd.C_drew ?_))); (case side2 => exact HC0.out); (case side3 => repeat (first | exact (Kd.C_below HR1.out HB.out) | (with_reducible refine Kd.C_alloc ?_ _) | (with_reducible refine Kd.C_drewN ?_ _) | (with_reducible refine Kd.C_drew ?_))); (case side4 => exact HC1.out); rintro e w9 ⟨v608, rfl, ho0, hb⟩; refine ⟨_, rfl, ?_⟩; have n0_ := Aside0.mk (Kd.R_lower ho0 (below_size (by repeat (first | (with_reducible first | exact HB.out | apply below_alloc | apply pw_below_drewN | apply below_drew1) | exact HB.out)))); have n1_ := Aside0.mk (below_step (by repeat (first | (with_reducible first | exact HB.out | apply below_alloc | apply pw_below_drewN | apply below_drew1) | exact HB.out)) hb); clear HB; have HO609 := n0_; have HB := n1_; clear n0_ n1_; (try clear hb); (try clear hb2); (try clear hk); (try clear hi); (try clear ho0)))
     go_ret2
     exact ⟨_, by first | rfl | (simp [errW_none, errW_some] <;> rfl) | (simp [*, errW_none, errW_some] <;> rfl), by (with_reducible repeat (first | apply Kd.R_alloc | apply Kd.R_drewN | apply Kd.R_drew)); exact HO609.out, by repeat (first | (with_reducible first | exact HB.out | apply below_alloc | apply pw_below_drewN | apply below_drew1) | exact HB.out)⟩
   · replace c6 := Bool.eq_false_iff.mpr c6
     subst c6
     have H1 : (some (([] : List ByteArray), false)) = some (r1, r2) := by rw [if_neg (show ¬ (false = true) by decide)] at H; exact H
     clear H
     have H := H1
     clear H1
     simp only [Option.some.injEq, Prod.mk.injEq] at H
     obtain ⟨rfl, rfl⟩ := H
     go_enter Try.func35, Try.ntmps35
     go_wp2_with (first | ((with_reducible refine gate_callee (f := 71) rfl ?_); refine goesL_ (some 7) rfl rfl Try.func71 (by kernel_rfl) rfl #[.slice A0 l0.length c0] rfl (by (try simp only [List.map_toArray, List.map_cons, List.map_nil]); first | done | rfl | (simp only [List.length_drop, List.length_take]; rfl)) ?_; (with_reducible refine (spec_l1Ok.calls k _ _ l0 true _ ?side1 ?side2 A3.out).mono ?_); (case side1 => repeat (first | exact HR0.out | (with_reducible refine Kd.C_alloc ?_ _) | (with_reducible refine Kd.C_drewN ?_ _) | (with_reducible refine Kd.C_drew ?_))); (case side2 => exact HC0.out); rintro e w' ⟨rfl, ⟨nd, rfl⟩⟩; refine ⟨_, rfl, ?_⟩) | (go_at_call 61; (with_reducible refine (spec_l13Ok.calls k _ _ l1 false _ ?side1 ?side2 A5.out).mono ?_); (case side1 => repeat (first | exact HR1.out | (with_reducible refine Kd.C_alloc ?_ _) | (with_reducible refine Kd.C_drewN ?_ _) | (with_reducible refine Kd.C_drew ?_))); (case side2 => exact HC1.out); rintro e w10 ⟨rfl, hb⟩; have n0_ := Aside0.mk (below_step (by repeat (first | (with_reducible first | exact HB.out | apply below_alloc | apply pw_below_drewN | apply below_drew1) | exact HB.out)) hb); clear HB; have HB := n0_; clear n0_; (try clear hb); (try clear hb2); (try clear hk); (try clear hi)))
     go_ret2
     exact ⟨_, by first | rfl | (simp [errW_none, errW_some] <;> rfl) | (simp [*, errW_none, errW_some] <;> rfl), by first | exact Kd.R_nil _ _ _ _ _ | exact Kd.N_nil _ _ _ _ _ | exact Kd.V_nil _ _ _ _ _ | exact Kd.Q_nil _ _ _ _ _ | exact Kd.S_nil _ _ _ _ _, by repeat (first | (with_reducible first | exact HB.out | apply below_alloc | apply pw_below_drewN | apply below_drew1) | exact HB.out)⟩
 · replace c4 := Bool.eq_false_iff.mpr c4
   subst c4
   have H1 : (some (([] : List ByteArray), false)) = some (r1, r2) := by rw [if_neg (show ¬ (false = true) by decide)] at H; exact H
   clear H
   have H := H1
   clear H1
   simp only [Option.some.injEq, Prod.mk.injEq] at H
   obtain ⟨rfl, rfl⟩ := H
   go_enter Try.func35, Try.ntmps35
   go_wp2_with (first | ((with_reducible refine gate_callee (f := 71) rfl ?_); refine goesL_ (some 7) rfl rfl Try.func71 (by kernel_rfl) rfl #[.slice A0 l0.length c0] rfl (by (try simp only [List.map_toArray, List.map_cons, List.map_nil]); first | done | rfl | (simp only [List.length_drop, List.length_take]; rfl)) ?_; (with_reducible refine (spec_l1Ok.calls k _ _ l0 false _ ?side1 ?side2 A3.out).mono ?_); (case side1 => repeat (first | exact HR0.out | (with_reducible refine Kd.C_alloc ?_ _) | (with_reducible refine Kd.C_drewN ?_ _) | (with_reducible refine Kd.C_drew ?_))); (case side2 => exact HC0.out); rintro e w' ⟨rfl, ⟨nd, rfl⟩⟩; refine ⟨_, rfl, ?_⟩))
   go_ret2
   exact ⟨_, by first | rfl | (simp [errW_none, errW_some] <;> rfl) | (simp [*, errW_none, errW_some] <;> rfl), by first | exact Kd.R_nil _ _ _ _ _ | exact Kd.N_nil _ _ _ _ _ | exact Kd.V_nil _ _ _ _ _ | exact Kd.Q_nil _ _ _ _ _ | exact Kd.S_nil _ _ _ _ _, by repeat (first | (with_reducible first | exact HB.out | apply below_alloc | apply pw_below_drewN | apply below_drew1) | exact HB.out)⟩
end Go.Proofs.Ytfnhjaiioojbkaa.Q
end
