/- A part of the proof of FnMShow: functions of the program, the reference and the law, each with what its call comes to. Conditions: those that each theorem names. -/
import Derived.Laws.BitsLemmas
import Derived.Test.YtfpdkeolecmepaaMMShow0
set_option linter.unusedVariables false
set_option linter.unusedSimpArgs false
section
namespace Go.Proofs.Ytfpdkeolecmepaa.Q
open Go.RowKit Go.Proofs.YtfpdkeolecmepaaW.PrintWords Go.Proofs.YtfpdkeolecmepaaW.PrintLast Go.Proofs.YtfpdkeolecmepaaW.PrintMore
attribute [local go_sem] max2_int min2_int max_two min_two max_three min_three max_four min_four   -- for this text's walks alone
set_option linter.unusedVariables false
set_option linter.unusedSimpArgs false
def impl_areTexts.f (k : Nat) (l0 : List ByteArray) (l1 : List ByteArray) (l2 : List ByteArray) : Option (Bool) := (impl_TextOk.f k l0).bind fun t232 => (if t232 = true then ((impl_TextOk.f k l1).bind fun t233 => (if t233 = true then ((impl_TextOk.f k l2).bind fun t234 => (some t234)) else (some false))) else (some false))
set_option maxHeartbeats 8000000 in
set_option maxRecDepth 100000 in
theorem impl_areTexts.calls (k : Nat) (A0 : Option Addr) (c0 : Nat) (l0 : List ByteArray) (A1 : Option Addr) (c1 : Nat) (l1 : List ByteArray) (A2 : Option Addr) (c2 : Nat) (l2 : List ByteArray) (r : Bool) (w : World) (hr0 : Kd.C Kd.string w A0 l0.length l0) (hc0 : l0.length ≤ c0) (hr1 : Kd.C Kd.string w A1 l1.length l1) (hc1 : l1.length ≤ c1) (hr2 : Kd.C Kd.string w A2 l2.length l2) (hc2 : l2.length ≤ c2) (h : impl_areTexts.f k l0 l1 l2 = some r) :
 Calls Try.prog 48 #[.slice A0 l0.length c0, .slice A1 l1.length c1, .slice A2 l2.length c2] w fun e w' => e = .returned (.bool r) ∧ Drawn0 w w' := by
 have HR0 := Aside0.mk hr0; have HC0 := Aside0.mk hc0; clear hr0 hc0; have HR1 := Aside0.mk hr1; have HC1 := Aside0.mk hc1; clear hr1 hc1; have HR2 := Aside0.mk hr2; have HC2 := Aside0.mk hc2; clear hr2 hc2; have H : ((impl_TextOk.f k l0).bind fun t232 => (if t232 = true then ((impl_TextOk.f k l1).bind fun t233 => (if t233 = true then ((impl_TextOk.f k l2).bind fun t234 => (some t234)) else (some false))) else (some false))) = some r := h; clear h; replace H := Option.bind_eq_some_iff.mp H; obtain ⟨t232, A40, H⟩ := H; replace H : (if t232 = true then ((impl_TextOk.f k l1).bind fun t233 => (if t233 = true then ((impl_TextOk.f k l2).bind fun t234 => (some t234)) else (some false))) else (some false)) = some r := H; have A4 := Aside0.mk A40; clear A40; by_cases c5 : t232 = true
 ·subst c5; (have H1 : ((impl_TextOk.f k l1).bind fun t233 => (if t233 = true then ((impl_TextOk.f k l2).bind fun t234 => (some t234)) else (some false))) = some r := by rw [if_pos rfl] at H; exact H); clear H; have H := H1; clear H1; replace H := Option.bind_eq_some_iff.mp H; obtain ⟨t233, A60, H⟩ := H; replace H : (if t233 = true then ((impl_TextOk.f k l2).bind fun t234 => (some t234)) else (some false)) = some r := H; have A6 := Aside0.mk A60; clear A60; by_cases c7 : t233 = true
  ·subst c7; (have H1 : ((impl_TextOk.f k l2).bind fun t234 => (some t234)) = some r := by rw [if_pos rfl] at H; exact H); clear H; have H := H1; clear H1; replace H := Option.bind_eq_some_iff.mp H; obtain ⟨t234, A80, H⟩ := H; replace H : (some t234) = some r := H; have A8 := Aside0.mk A80; clear A80; obtain rfl := Option.some.inj H; go_enter Try.func48, Try.ntmps48; go_wp2_with (first | ((with_reducible refine gate_callee (f := 16) rfl ?_); refine goesL_ (some 8) rfl rfl Try.func16 (by kernel_rfl) rfl #[.slice A0 l0.length c0] rfl (by (try simp only [List.map_toArray, List.map_cons, List.map_nil]); first | done | rfl | (simp only [List.length_drop, List.length_take]; rfl)) ?_; (with_reducible refine (impl_TextOk.calls k _ _ l0 true _ ?side1 ?side2 A4.out).mono ?_); (case side1 => repeat (first | exact HR0.out | (with_reducible refine Kd.C_alloc ?_ _) | (with_reducible refine Kd.C_drewN ?_ _) | (with_reducible refine Kd.C_drew ?_))); (case side2 => exact HC0.out); rintro e w' ⟨rfl, ⟨nd, rfl⟩⟩; refine ⟨_, rfl, ?_⟩) | (go_at_call 16; (with_reducible refine (impl_TextOk.calls k _ _ l1 true _ ?side1 ?side2 A6.out).mono ?_); (case side1 => repeat (first | exact HR1.out | (with_reducible refine Kd.C_alloc ?_ _) | (with_reducible refine Kd.C_drewN ?_ _) | (with_reducible refine Kd.C_drew ?_))); (case side2 => exact HC1.out); rintro e w' ⟨rfl, ⟨nd, rfl⟩⟩) | (go_at_call 16; (with_reducible refine (impl_TextOk.calls k _ _ l2 t234 _ ?side1 ?side2 A8.out).mono ?_); (case side1 => repeat (first | exact HR2.out | (with_reducible refine Kd.C_alloc ?_ _) | (with_reducible refine Kd.C_drewN ?_ _) | (with_reducible refine Kd.C_drew ?_))); (case side2 => exact HC2.out); rintro e w' ⟨rfl, ⟨nd, rfl⟩⟩)); go_ret; exact ⟨by first | rfl | (simp; done) | (simp [*]; done), by repeat (first | exact Drawn0.refl _ | apply Drawn0.step)⟩
  ·replace c7 := Bool.eq_false_iff.mpr c7; subst c7; (have H1 : (some false) = some r := by rw [if_neg (show ¬ (false = true) by decide)] at H; exact H); clear H; have H := H1; clear H1; obtain rfl := Option.some.inj H; go_enter Try.func48, Try.ntmps48; go_wp2_with (first | ((with_reducible refine gate_callee (f := 16) rfl ?_); refine goesL_ (some 8) rfl rfl Try.func16 (by kernel_rfl) rfl #[.slice A0 l0.length c0] rfl (by (try simp only [List.map_toArray, List.map_cons, List.map_nil]); first | done | rfl | (simp only [List.length_drop, List.length_take]; rfl)) ?_; (with_reducible refine (impl_TextOk.calls k _ _ l0 true _ ?side1 ?side2 A4.out).mono ?_); (case side1 => repeat (first | exact HR0.out | (with_reducible refine Kd.C_alloc ?_ _) | (with_reducible refine Kd.C_drewN ?_ _) | (with_reducible refine Kd.C_drew ?_))); (case side2 => exact HC0.out); rintro e w' ⟨rfl, ⟨nd, rfl⟩⟩; refine ⟨_, rfl, ?_⟩) | (go_at_call 16; (with_reducible refine (impl_TextOk.calls k _ _ l1 false _ ?side1 ?side2 A6.out).mono ?_); (case side1 => repeat (first | exact HR1.out | (with_reducible refine Kd.C_alloc ?_ _) | (with_reducible refine Kd.C_drewN ?_ _) | (with_reducible refine Kd.C_drew ?_))); (case side2 => exact HC1.out); rintro e w' ⟨rfl, ⟨nd, rfl⟩⟩)); go_ret; exact ⟨by first | rfl | (simp; done) | (simp [*]; done), by repeat (first | exact Drawn0.refl _ | apply Drawn0.step)⟩
 ·replace c5 := Bool.eq_false_iff.mpr c5; subst c5; (have H1 : (some false) = some r := by rw [if_neg (show ¬ (false = true) by decide)] at H; exact H); clear H; have H := H1; clear H1; obtain rfl := Option.some.inj H; go_enter Try.func48, Try.ntmps48; go_wp2_with (first | ((with_reducible refine gate_callee (f := 16) rfl ?_); refine goesL_ (some 8) rfl rfl Try.func16 (by kernel_rfl) rfl #[.slice A0 l0.length c0] rfl (by (try simp only [List.map_toArray, List.map_cons, List.map_nil]); first | done | rfl | (simp only [List.length_drop, List.length_take]; rfl)) ?_; (with_reducible refine (impl_TextOk.calls k _ _ l0 false _ ?side1 ?side2 A4.out).mono ?_); (case side1 => repeat (first | exact HR0.out | (with_reducible refine Kd.C_alloc ?_ _) | (with_reducible refine Kd.C_drewN ?_ _) | (with_reducible refine Kd.C_drew ?_))); (case side2 => exact HC0.out); rintro e w' ⟨rfl, ⟨nd, rfl⟩⟩; refine ⟨_, rfl, ?_⟩)); go_ret; exact ⟨by first | rfl | (simp; done) | (simp [*]; done), by repeat (first | exact Drawn0.refl _ | apply Drawn0.step)⟩
end Go.Proofs.Ytfpdkeolecmepaa.Q
end
section
namespace Go.Proofs.Ytfpdkeolecmepaa.Q
open Go.RowKit Go.Proofs.YtfpdkeolecmepaaW.PrintWords Go.Proofs.YtfpdkeolecmepaaW.PrintLast Go.Proofs.YtfpdkeolecmepaaW.PrintMore
attribute [local go_sem] max2_int min2_int max_two min_two max_three min_three max_four min_four   -- for this text's walks alone
set_option linter.unusedVariables false
set_option linter.unusedSimpArgs false
def slices_Clone_string_string.f (l0 : List ByteArray) : Option (List ByteArray) := if l0.length < 8796093022208 then some l0 else none
theorem equalIn_nil_run {P : Program} (w : World) (d : Nat) (t e : TypeId) (a : Option Addr) (n c n' c' : Nat) (h : P.underlying t = some (.slice e)) :
 (Op.equalIn (d + 1) t (.slice a n c) (.slice none n' c')).run P w = .ok a.isNone w := by
 cases a <;> simp [Op.equalIn, run_underlying h]
theorem eql_nil_run {P : Program} (w : World) (t e : TypeId) (a : Option Addr) (n c n' c' : Nat) (h : P.underlying t = some (.slice e)) :
 (binOp .eql t (.slice a n c) (.slice none n' c')).run P w = .ok (.bool a.isNone) w := by
 simp only [binOp]
 simp [Op.equal, Op.maxDepth, equalIn_nil_run w 9999 t e a n c n' c' h]
set_option maxHeartbeats 2000000 in
theorem slices_Clone_string_string.calls (A0 : Option Addr) (c0 : Nat) (l0 : List ByteArray) (r : List ByteArray) (w : World) (hr0 : Kd.C Kd.string w A0 l0.length l0) (hc0 : l0.length ≤ c0) (h : slices_Clone_string_string.f l0 = some r) :
 Calls Try.prog 65 #[.slice A0 l0.length c0] w fun e w' => ∃ v0_ : Value, e = .returned (v0_) ∧ Kd.R Kd.string 9 w' w.heap.size (fun _ => True) v0_ r ∧ Below w.heap.size w w' := by
 have hl : l0.length < 8796093022208 ∧ r = l0 := by
  unfold slices_Clone_string_string.f at h
  split at h
  ·exact ⟨by assumption, (Option.some.inj h).symm⟩
  ·exact absurd h (by simp)
 obtain ⟨hl, rfl⟩ := hl; clear h; have HR := Aside0.mk hr0; have LM := Aside0.mk hl; clear hr0 hl; (have q23 : ∀ (w : World) (a : Option Addr) (n c n' c' : Nat), (binOp .eql 23 (.slice a n c) (.slice none n' c')).run Try.prog w = .ok (.bool a.isNone) w := fun w a n c n' c' => eql_nil_run w _ _ a n c n' c' Try.underlying23); go_enter Try.func65, Try.ntmps65
 cases A0 with
 | none =>
  go_wp2; go_ret
  have : r = [] := by
   rcases HR.out with ⟨_, _, h2⟩
   rcases Nat.eq_zero_or_pos r.length with h | h
   ·exact List.length_eq_zero_iff.mp h
   ·obtain ⟨ad, h3, _⟩ := h2 h; cases h3
  subst this
  exact ⟨_, rfl, Kd.R_nil _ _ _ _ _, Below.refl _ _⟩
 | some ad =>
  obtain ⟨y0, hy0⟩ : ∃ y_ : List ByteArray, y_ = ([] : List ByteArray) := ⟨_, rfl⟩; have HB := Aside0.mk (Below.refl w.heap.size w); go_wp2_with (first | ((with_reducible refine gate_dst (N := 5) rfl ?_); refine Kd.R_lit Kd.string _ 9 ?hg (N := 5) ?hd (xs := ([] : List ByteArray)) (inner := []) (ok := fun _ => True) (okp := fun _ => True) ?hr ?hp (fun _ hk => hk) trivial (Below.refl _ _) (Nat.le_refl _) (by simp) ?_; (case hd => rfl); (case hg => rfl); (case hr => first | (go_simp; done) | (go_simp; rfl)); (case hp => exact (Reps.none _ _)); intro v361 w11 ho12 hb hg_ hnew_; clear hg_ hnew_; have HO362 := Aside0.mk ho12; have n2_ := Aside0.mk (below_step (by repeat (first | (with_reducible first | exact HB.out | apply below_alloc | apply pw_below_drewN | apply below_drew1) | exact HB.out)) hb); clear HB; have HB := n2_; clear n2_; clear hb ho12) | ((with_reducible refine gate_builtin (b := .append) (xs := #[.tmp 5, .tmp 6]) rfl ?_); at_builtin; refine Kd.R_append_rows Kd.string (w0 := w) w.heap.size rfl (.tmp 5) (.tmp 6) 23 9 (.string ⟨#[]⟩) 16 rfl Try.underlying23 info9 rfl (by decide) (by omega) v361 [] r _ _ _ (fun _ => True) (fun _ => False) rfl rfl ?aO ?aR (fun _ _ h => h) (fun _ h => h.elim) ?aF ?aB ?aS ?aL ?_; (case aR => repeat (first | exact (Kd.C_below HR.out HB.out) | (with_reducible refine Kd.C_alloc ?_ _) | (with_reducible refine Kd.C_drewN ?_ _) | (with_reducible refine Kd.C_drew ?_))); (case aB => exact (by repeat (first | (with_reducible first | exact HB.out | apply below_alloc | apply pw_below_drewN | apply below_drew1) | exact HB.out))); (case aF => exact (fun _ _ => trivial)); (case aO => exact (by (with_reducible repeat (first | apply Kd.R_alloc | apply Kd.R_drewN | apply Kd.R_drew)); exact HO362.out)); (case aS => exact (below_size (by repeat (first | (with_reducible first | exact HB.out | apply below_alloc | apply pw_below_drewN | apply below_drew1) | exact HB.out)))); (case aL => have := LM.out; simp only [List.length_nil]; omega); intro v364 w13 ho hb hg hat; have HO365 := Aside0.mk ho; have HB2 := Aside0.mk hb; clear ho hb hg hat HB)); go_ret; exact ⟨_, rfl, by (with_reducible repeat (first | apply Kd.R_alloc | apply Kd.R_drewN | apply Kd.R_drew)); simpa using HO365.out, by repeat (first | (with_reducible first | exact HB2.out | apply below_alloc | apply pw_below_drewN | apply below_drew1) | exact HB2.out)⟩
end Go.Proofs.Ytfpdkeolecmepaa.Q
end
section
namespace Go.Proofs.Ytfpdkeolecmepaa.Q
open Go.RowKit Go.Proofs.YtfpdkeolecmepaaW.PrintWords Go.Proofs.YtfpdkeolecmepaaW.PrintLast Go.Proofs.YtfpdkeolecmepaaW.PrintMore
attribute [local go_sem] max2_int min2_int max_two min_two max_three min_three max_four min_four   -- for this text's walks alone
set_option linter.unusedVariables false
set_option linter.unusedSimpArgs false
abbrev Pt := S31
def addL (p : Pt) (l : List ByteArray) : Pt := ⟨p.f0, p.f1 ++ l, p.f2, p.f3, p.f4⟩
/-- Lines behind parts. -/
def res (ps : List Pt) (l : List ByteArray) : List Pt :=
 if l = [] then ps else if 0 < ps.length ∧ (ps.getLastD z31).f0 = false then ps.dropLast ++ [addL (ps.getLastD z31) l] else ps ++ [⟨false, l, [], [], []⟩]
/-- What two sides made of a piece, behind parts. -/
def reg (ps : List Pt) (o a b : List ByteArray) : List Pt := if a = o ∨ a = b then res ps b else if b = o then res ps a else ps ++ [⟨true, [], o, a, b⟩]
def seg2 (l : List ByteArray) (i j : Nat) : List ByteArray := (l.take j).drop i
/-- Not too many parts, none too long. -/
def smP (N : Nat) (ps : List Pt) : Prop := ps.length ≤ N ∧ ∀ p ∈ ps, p.f1.length ≤ N
theorem smP_snoc {N : Nat} {ps : List Pt} (h : smP N ps) {p : Pt} (hp : p.f1.length ≤ N + 1000) : smP (N + 1000) (ps ++ [p]) := by
 refine ⟨by have := h.1; simp; omega, fun q hq => ?_⟩
 rcases List.mem_append.1 hq with hq | hq
 ·have := h.2 q hq; omega
 ·rw [List.mem_singleton.1 hq]; exact hp
theorem smP_up {N : Nat} {ps : List Pt} (h : smP N ps) : smP (N + 1000) ps := ⟨by have := h.1; omega, fun q hq => by have := h.2 q hq; omega⟩
theorem smP_res {N : Nat} {ps : List Pt} (h : smP N ps) {l : List ByteArray} (hl : l.length ≤ 1000) : smP (N + 1000) (res ps l) := by
 unfold res
 split
 ·exact smP_up h
 ·split
  ·rename_i h1 h2
   rcases List.eq_nil_or_concat ps with rfl | ⟨q, p, hqp⟩
   ·exact absurd h2.1 (by simp)
   ·rw [List.concat_eq_append] at hqp; subst hqp; (have e2 : (q ++ [p]).getLastD z31 = p := by simp [List.getLastD_eq_getLast?]); rw [e2, List.dropLast_concat]; have hh := h.2 p (by simp); have := h.1; simp only [List.length_append, List.length_singleton] at this; refine ⟨by simp; omega, fun x hx => ?_⟩
    rcases List.mem_append.1 hx with hx | hx
    ·have := h.2 x (List.mem_append_left _ hx); omega
    ·rw [List.mem_singleton.1 hx]; simp only [addL, List.length_append]; omega
  ·exact smP_snoc h (by simp only; omega)
theorem smP_reg {N : Nat} {ps : List Pt} (h : smP N ps) {o a b : List ByteArray} (ha : a.length ≤ 1000) (hb : b.length ≤ 1000) : smP (N + 1000) (reg ps o a b) := by
 unfold reg
 split
 ·exact smP_res h hb
 ·split
  ·exact smP_res h ha
  ·exact smP_snoc h (by simp)
/-- A part whose lines' block is none of its other rows'. -/
def kPt : Kd Pt where
 sz := 5
 E := [9]
 K := k31.K
 M := fun w base ok x cs => ∃ v1 v2 v3 v4, cs = [.bool x.f0, v1, v2, v3, v4] ∧ Kd.string.R 9 w base ok v1 x.f1 ∧ Kd.string.R 9 w base (fun k => ok k ∧ some k ≠ v1.ownBlock) v2 x.f2 ∧ Kd.string.R 9 w base (fun k => ok k ∧ some k ≠ v1.ownBlock) v3 x.f3 ∧ Kd.string.R 9 w base (fun k => ok k ∧ some k ≠ v1.ownBlock) v4 x.f4
 K_len := k31.K_len
 K_one := k31.K_one
 K_below := k31.K_below
 K_of_M := by
  rintro w base ok x cs ⟨v1, v2, v3, v4, rfl, g1, g2, g3, g4⟩; exact k31.K_of_M (k31_mkM w base ok x g1 (Kd.R_mono g2 (fun _ h => h.1)) (Kd.R_mono g3 (fun _ h => h.1)) (Kd.R_mono g4 (fun _ h => h.1)))
 M_mono := by
  rintro w base ok ok' x cs hok ⟨v1, v2, v3, v4, rfl, g1, g2, g3, g4⟩; exact ⟨v1, v2, v3, v4, rfl, Kd.R_mono g1 hok, Kd.R_mono g2 (fun k h => ⟨hok k h.1, h.2⟩), Kd.R_mono g3 (fun k h => ⟨hok k h.1, h.2⟩), Kd.R_mono g4 (fun k h => ⟨hok k h.1, h.2⟩)⟩
 M_bound := by
  rintro w base ok x cs ⟨v1, v2, v3, v4, rfl, g1, g2, g3, g4⟩; refine ⟨v1, v2, v3, v4, rfl, Kd.R_mono (Kd.R_bound g1) (fun k h => h), Kd.R_mono (Kd.R_bound g2) (fun k h => ⟨⟨h.1.1, h.2⟩, h.1.2⟩), Kd.R_mono (Kd.R_bound g3) (fun k h => ⟨⟨h.1.1, h.2⟩, h.1.2⟩), Kd.R_mono (Kd.R_bound g4) (fun k h => ⟨⟨h.1.1, h.2⟩, h.1.2⟩)⟩
 M_move := by
  rintro w w1 base ok x cs hm ⟨v1, v2, v3, v4, rfl, g1, g2, g3, g4⟩; exact ⟨v1, v2, v3, v4, rfl, Kd.R_move g1 hm, Kd.R_move g2 (fun k h => hm k h.1), Kd.R_move g3 (fun k h => hm k h.1), Kd.R_move g4 (fun k h => hm k h.1)⟩
 M_lower := by
  rintro w base base' ok x cs hb ⟨v1, v2, v3, v4, rfl, g1, g2, g3, g4⟩; exact ⟨v1, v2, v3, v4, rfl, Kd.R_lower g1 hb, Kd.R_lower g2 hb, Kd.R_lower g3 hb, Kd.R_lower g4 hb⟩
theorem R_map {α β : Type} {d : Kd α} {d' : Kd β} {f : α → β} (hsz : d'.sz = d.sz) {e : Nat} {w : World} {base : Nat} {ok : Nat → Prop} {v : Value} {xs : List α} (hf : ∀ ok x cs, d.M w base ok x cs → d'.M w base ok (f x) cs) (h : Kd.R d e w base ok v xs) : Kd.R d' e w base ok v (xs.map f) := by
 obtain ⟨h0, inner, ho, hr⟩ := h; refine ⟨h0, inner, by rw [List.length_map, hsz]; exact ho, by rw [List.length_map, hsz]; exact hr.1, fun j p hj => ?_⟩; rw [List.getElem?_map] at hj; obtain ⟨q, hq, rfl⟩ := Option.map_eq_some_iff.mp hj; rw [hsz]; exact hf _ _ _ (hr.2 j q hq)
theorem S_map {α β : Type} {d : Kd α} {d' : Kd β} {f : α → β} (hsz : d'.sz = d.sz) {e : Nat} {w : World} {base : Nat} {ok : Nat → Prop} {v : Value} {xs : List α} (hf : ∀ ok x cs, d.M w base ok x cs → d'.M w base ok (f x) cs) (h : Kd.S d e w base ok v xs) : Kd.S d' e w base ok v (xs.map f) := by
 obtain ⟨g, h⟩ := h; refine ⟨g, ?_⟩; (have e : (xs.map f).zipIdx = xs.zipIdx.map (fun p => (f p.1, p.2)) := by rw [List.zipIdx_map]; rfl); rw [e]; exact R_map (d := Kd.tag g d) (d' := Kd.tag g d') (f := fun p => (f p.1, p.2)) hsz (fun ok x cs hM => hf _ _ _ hM) h
theorem S_Pt {e : Nat} {w : World} {base : Nat} {ok : Nat → Prop} {v : Value} {xs : List Pt} (h : Kd.S kPt e w base ok v xs) : Kd.S k31 e w base ok v xs := by
 have := S_map (d := kPt) (d' := k31) (f := id) rfl (fun ok x cs ⟨v1, v2, v3, v4, hc, g1, g2, g3, g4⟩ => by subst hc; exact k31_mkM w base ok x g1 (Kd.R_mono g2 (fun _ h => h.1)) (Kd.R_mono g3 (fun _ h => h.1)) (Kd.R_mono g4 (fun _ h => h.1))) h
 rwa [List.map_id] at this
/-- Of what is lent, only what there is. -/
theorem H_less {α : Type} {d : Kd α} {e : Nat} {w : World} {base : Nat} {ok oki : Nat → Prop} {v : Value} {xs : List α} {i : Int} {c : List Value} (h : Kd.H d e w base ok v xs i oki c) : Kd.H d e w base ok v xs i (fun k => oki k ∧ k < w.heap.size) c := by
 obtain ⟨ho, f, h⟩ := h; exact ⟨fun k hk => ho k hk.1, f, Kd.R_mono (Kd.R_bound h) (fun k hk => ⟨hk.1.1, fun h2 => hk.1.2 h2.1⟩)⟩
theorem cell_grown {W w1 : World} {row : Option Nat} {g : Nat} {o : Obj} {j : Nat} {u : Value} (hc : W.cell? ⟨g, j, none⟩ = some u) (hb : W.heap[g]? = some o) (hg : W.grownBy w1 row) (hne : some g ≠ row) : w1.cell? ⟨g, j, none⟩ = some u := by
 have h := (blk_grown hb hg hne).trans hb.symm
 simpa [World.cell?, h] using hc
/-- The last part, lent: its lines, and the row without them. -/
theorem last_lend {W : World} {base : Nat} {ok : Nat → Prop} {g n cap : Nat} {q : List Pt} {p : Pt} (h : Kd.S kPt 31 W base ok (.slice (some ⟨g, 0, none⟩) n cap) (q ++ [p])) :
 ∃ (oki : Nat → Prop) (A : Option Addr) (c : Nat) (v2 v3 v4 : Value), Kd.R Kd.string 9 W base oki (.slice A p.f1.length c) p.f1 ∧ Kd.R Kd.string 9 W base (fun k => oki k ∧ some k ≠ (Value.slice A p.f1.length c).ownBlock) v2 p.f2 ∧ Kd.R Kd.string 9 W base (fun k => oki k ∧ some k ≠ (Value.slice A p.f1.length c).ownBlock) v3 p.f3 ∧ Kd.R Kd.string 9 W base (fun k => oki k ∧ some k ≠ (Value.slice A p.f1.length c).ownBlock) v4 p.f4 ∧ n = q.length + 1 ∧
  W.cell? ⟨g, q.length * 5, none⟩ = some (.bool p.f0) ∧ W.cell? ⟨g, q.length * 5 + 1, none⟩ = some (.slice A p.f1.length c) ∧ (∀ k, oki k → ok k ∧ k ≠ g) ∧ (∀ k, oki k → k < W.heap.size) ∧
  Kd.H kPt 31 W base ok (.slice (some ⟨g, 0, none⟩) n cap) (q ++ [p]) (q.length : Int) oki [.bool p.f0, .slice A p.f1.length c, v2, v3, v4] := by
 (have hn : n = q.length + 1 := by have := (Kd.S_reads' h).1; simpa using this); obtain ⟨oki, c, hcl, hM, hcc, hoki, hH⟩ := Kd.S_lend h z31 (q.length : Int) (by omega) (by omega); (have e : (q ++ [p]).getD ((q.length : Int)).toNat z31 = p := by simp [List.getD_eq_getElem?_getD]); rw [e] at hM; obtain ⟨v1, v2, v3, v4, rfl, g1, g2, g3, g4⟩ := kPt.M_bound hM; obtain ⟨A, c2, rfl⟩ := Kd.R_slice g1; (have hb : ∀ {v : Value} {xs : List ByteArray} {X : Nat → Prop}, Kd.string.R 9 W base (fun k => (oki k ∧ base ≤ k ∧ k < W.heap.size ∧ ∃ q, q ∈ kPt.E ∧ ∃ cells, W.heap[k]? = some (.cells cells q (0, 0))) ∧ X k) v xs → Kd.string.R 9 W base (fun k => (oki k ∧ k < W.heap.size) ∧ X k) v xs := fun h => Kd.R_mono h (fun k hk => ⟨⟨hk.1.1, hk.1.2.2.1⟩, hk.2⟩)); exact ⟨fun k => oki k ∧ k < W.heap.size, A, c2, v2, v3, v4, Kd.R_mono g1 (fun k hk => ⟨hk.1, hk.2.2.1⟩), hb g2, hb g3, hb g4, hn, hcc 0 _ rfl, hcc 1 _ rfl, fun k hk => hoki k hk.1, fun k hk => hk.2, H_less hH⟩
/-- Lines have been put behind the last part's, and its cell is written. -/
theorem last_backP {W w1 : World} {base : Nat} {P : Nat → Prop} {oki : Nat → Prop} {g n cap c : Nat} {A : Option Addr} {v2 v3 v4 v5 : Value} {q : List Pt} {p : Pt} {l : List ByteArray} (hn : n = q.length + 1)
 (hH : Kd.H kPt 31 W base P (.slice (some ⟨g, 0, none⟩) n cap) (q ++ [p]) (q.length : Int) oki [.bool p.f0, .slice A p.f1.length c, v2, v3, v4]) (hM : ∀ k, W.heap.size ≤ k → P k)
 (g2 : Kd.R Kd.string 9 W base (fun k => oki k ∧ some k ≠ (Value.slice A p.f1.length c).ownBlock) v2 p.f2) (g3 : Kd.R Kd.string 9 W base (fun k => oki k ∧ some k ≠ (Value.slice A p.f1.length c).ownBlock) v3 p.f3) (g4 : Kd.R Kd.string 9 W base (fun k => oki k ∧ some k ≠ (Value.slice A p.f1.length c).ownBlock) v4 p.f4)
 (hv : ∀ k, (Value.slice A p.f1.length c).ownBlock = some k → oki k) (hl : ∀ k, oki k → k < W.heap.size)
 (ho : Kd.R Kd.string 9 w1 base (fun k => oki k ∨ W.heap.size ≤ k) v5 (p.f1 ++ l)) (hg : W.grownBy w1 (Value.slice A p.f1.length c).ownBlock) (hat : v5.ownBlock = (Value.slice A p.f1.length c).ownBlock ∨ ∃ b, v5.ownBlock = some b ∧ W.heap.size ≤ b) :
 Kd.S kPt 31 (w1.setCell ⟨g, q.length * 5 + 1, none⟩ v5) base P (.slice (some ⟨g, 0, none⟩) n cap) (q ++ [addL p l]) := by
 have h2 := Kd.H_grown (Kd.H_widen hH) hg (fun k hk => .inl (hv k hk)); have h3 : Kd.H kPt 31 w1 base (fun k => P k ∧ ¬ (fun _ => False) k) (.slice (some ⟨g, 0, none⟩) n cap) (q ++ [p]) (q.length : Int) (fun k => oki k ∨ P k ∧ W.heap.size ≤ k) [.bool p.f0, .slice A p.f1.length c, v2, v3, v4] := Kd.H_mono h2 (fun k hk => ⟨hk, fun h => h⟩); (have hm : ∀ {v : Value} {xs : List ByteArray}, Kd.R Kd.string 9 W base (fun k => oki k ∧ some k ≠ (Value.slice A p.f1.length c).ownBlock) v xs → Kd.R Kd.string 9 w1 base (fun k => (oki k ∨ P k ∧ W.heap.size ≤ k) ∧ some k ≠ v5.ownBlock) v xs := fun h => Kd.R_mono (Kd.R_after h hg hat) (fun k hk => ⟨.inl hk.1, hk.2⟩)); have h4 := (Kd.S_seg (okg := fun _ => False) h3 (by omega) (by omega) (seg := [v5]) (j := 1) (by show 1 + 1 ≤ 5; omega) (x' := addL p l) (okp := fun k => oki k ∨ P k ∧ W.heap.size ≤ k) ⟨v5, v2, v3, v4, rfl, Kd.R_mono ho (fun k hk => hk.elim .inl (fun h => .inr ⟨hM k h, h⟩)), hm g2, hm g3, hm g4⟩ (fun k hk => .inl hk) (fun k hk => hk.elim)).1; (have e : (q ++ [p]).set ((q.length : Int)).toNat (addL p l) = q ++ [addL p l] := by simp); rw [e] at h4; exact h4
theorem last_back {W w1 : World} {base M : Nat} {oki : Nat → Prop} {g n cap c : Nat} {A : Option Addr} {v2 v3 v4 v5 : Value} {q : List Pt} {p : Pt} {l : List ByteArray} (hn : n = q.length + 1)
 (hH : Kd.H kPt 31 W base (fun k => M ≤ k) (.slice (some ⟨g, 0, none⟩) n cap) (q ++ [p]) (q.length : Int) oki [.bool p.f0, .slice A p.f1.length c, v2, v3, v4]) (hM : M ≤ W.heap.size)
 (g2 : Kd.R Kd.string 9 W base (fun k => oki k ∧ some k ≠ (Value.slice A p.f1.length c).ownBlock) v2 p.f2) (g3 : Kd.R Kd.string 9 W base (fun k => oki k ∧ some k ≠ (Value.slice A p.f1.length c).ownBlock) v3 p.f3) (g4 : Kd.R Kd.string 9 W base (fun k => oki k ∧ some k ≠ (Value.slice A p.f1.length c).ownBlock) v4 p.f4)
 (hv : ∀ k, (Value.slice A p.f1.length c).ownBlock = some k → oki k) (hl : ∀ k, oki k → k < W.heap.size)
 (ho : Kd.R Kd.string 9 w1 base (fun k => oki k ∨ W.heap.size ≤ k) v5 (p.f1 ++ l)) (hg : W.grownBy w1 (Value.slice A p.f1.length c).ownBlock) (hat : v5.ownBlock = (Value.slice A p.f1.length c).ownBlock ∨ ∃ b, v5.ownBlock = some b ∧ W.heap.size ≤ b) :
 Kd.S kPt 31 (w1.setCell ⟨g, q.length * 5 + 1, none⟩ v5) base (fun k => M ≤ k) (.slice (some ⟨g, 0, none⟩) n cap) (q ++ [addL p l]) :=
 last_backP (P := fun k => M ≤ k) hn hH (fun k hk => Nat.le_trans hM hk) g2 g3 g4 hv hl ho hg hat
theorem infoPt : (Try.prog.info? 31).map (fun i => (i.zero, i.size, i.bytes)) = some (some (.agg #[.bool false, .slice none 0 0, .slice none 0 0, .slice none 0 0, .slice none 0 0]), 5, 104) := by kernel_rfl
/-- Behind what a call has made, a part of it is appended. -/
theorem res_new {ps : List Pt} {l : List ByteArray} (h : l.length ≠ 0) (hp : ps = [] ∨ ∃ q p, ps = q ++ [p] ∧ p.f0 = true) : res ps l = ps ++ [⟨false, l, [], [], []⟩] := by
 unfold res
 rw [if_neg (fun e => h (by rw [e]; rfl))]
 rcases hp with rfl | ⟨q, p, rfl, hp⟩
 ·rw [if_neg (by simp)]
 ·rw [if_neg (by simp [List.getLastD_eq_getLast?, hp])]
theorem res_old {q : List Pt} {p : Pt} {l : List ByteArray} (h : l.length ≠ 0) (hp : p.f0 = false) : res (q ++ [p]) l = q ++ [addL p l] := by
 unfold res
 rw [if_neg (fun e => h (by rw [e]; rfl)), if_pos (by simp [List.getLastD_eq_getLast?, hp])]
 simp [List.getLastD_eq_getLast?]
/-- All parts, between lines that both sides still have, while all places are in reach. -/
def mgO (o a b : List ByteArray) (mA mB : List Int) : Nat → Nat → Nat → Nat → List Pt → Option (List Pt)
 | 0, i, j, k, ps => if j ≤ a.length ∧ k ≤ b.length then some (reg ps (o.drop i) (a.drop j) (b.drop k)) else none
 | d + 1, i, j, k, ps =>
  if mA.getD (o.length - (d + 1)) 0 < 0 ∨ mB.getD (o.length - (d + 1)) 0 < 0 then mgO o a b mA mB d i j k ps
  else if j ≤ (mA.getD (o.length - (d + 1)) 0).toNat ∧ (mA.getD (o.length - (d + 1)) 0).toNat ≤ a.length ∧ k ≤ (mB.getD (o.length - (d + 1)) 0).toNat ∧ (mB.getD (o.length - (d + 1)) 0).toNat ≤ b.length then
   mgO o a b mA mB d (o.length - (d + 1) + 1) ((mA.getD (o.length - (d + 1)) 0).toNat + 1) ((mB.getD (o.length - (d + 1)) 0).toNat + 1) (res (reg ps (seg2 o i (o.length - (d + 1))) (seg2 a j (mA.getD (o.length - (d + 1)) 0).toNat) (seg2 b k (mB.getD (o.length - (d + 1)) 0).toNat)) [o.getD (o.length - (d + 1)) ByteArray.empty])
  else none
def mgG (o a b : List ByteArray) (mA mB : List Int) : Option (List Pt) :=
 if mA.length = o.length ∧ mB.length = o.length ∧ o.length ≤ 1000 ∧ a.length ≤ 1000 ∧ b.length ≤ 1000 then mgO o a b mA mB o.length 0 0 0 [] else none
/-- A round from line n on. -/
theorem mgO_at {o a b : List ByteArray} {mA mB : List Int} {n i j k : Nat} {ps r : List Pt} (hn : n < o.length) (h : mgO o a b mA mB (o.length - n) i j k ps = some r) :
 (mA.getD n 0 < 0 ∨ mB.getD n 0 < 0) ∧ mgO o a b mA mB (o.length - (n + 1)) i j k ps = some r ∨
 ¬ mA.getD n 0 < 0 ∧ ¬ mB.getD n 0 < 0 ∧ j ≤ (mA.getD n 0).toNat ∧ (mA.getD n 0).toNat ≤ a.length ∧ k ≤ (mB.getD n 0).toNat ∧ (mB.getD n 0).toNat ≤ b.length ∧
  mgO o a b mA mB (o.length - (n + 1)) (n + 1) ((mA.getD n 0).toNat + 1) ((mB.getD n 0).toNat + 1) (res (reg ps (seg2 o i n) (seg2 a j (mA.getD n 0).toNat) (seg2 b k (mB.getD n 0).toNat)) [o.getD n ByteArray.empty]) = some r := by
 obtain ⟨d, hd⟩ : ∃ d, o.length - n = d + 1 := ⟨o.length - n - 1, by omega⟩; (have e1 : o.length - (d + 1) = n := by omega); (have e2 : o.length - (n + 1) = d := by omega); rw [hd, mgO] at h; rw [e1] at h; rw [e2]; by_cases c : mA.getD n 0 < 0 ∨ mB.getD n 0 < 0
 ·rw [if_pos c] at h; exact .inl ⟨c, h⟩
 ·rw [if_neg c] at h; by_cases c2 : j ≤ (mA.getD n 0).toNat ∧ (mA.getD n 0).toNat ≤ a.length ∧ k ≤ (mB.getD n 0).toNat ∧ (mB.getD n 0).toNat ≤ b.length
  ·rw [if_pos c2] at h; exact .inr ⟨fun h => c (.inl h), fun h => c (.inr h), c2.1, c2.2.1, c2.2.2.1, c2.2.2.2, h⟩
  ·rw [if_neg c2] at h; cases h
theorem mgO_end {o a b : List ByteArray} {mA mB : List Int} {i j k : Nat} {ps r : List Pt} (h : mgO o a b mA mB (o.length - o.length) i j k ps = some r) : j ≤ a.length ∧ k ≤ b.length ∧ r = reg ps (o.drop i) (a.drop j) (b.drop k) := by
 rw [Nat.sub_self, mgO] at h; by_cases c : j ≤ a.length ∧ k ≤ b.length
 ·rw [if_pos c] at h; exact ⟨c.1, c.2, (Option.some.inj h).symm⟩
 ·rw [if_neg c] at h; cases h
theorem seg2_len (l : List ByteArray) (i j : Nat) (h : j ≤ l.length) : (seg2 l i j).length = j - i := by simp [seg2]; omega
theorem seg2_le (l : List ByteArray) (i j : Nat) : (seg2 l i j).length ≤ l.length := by simp [seg2]; omega
/-- A piece of a row that is read. -/
theorem C_seg2 {w : World} {A : Option Addr} {l : List ByteArray} {i j c : Nat} (h : Kd.C Kd.string w A l.length l) (hj : j ≤ l.length) (hi : i ≤ j) (hc : l.length ≤ c) : Kd.C Kd.string w (if c = i then A else A.map (·.add i)) (seg2 l i j).length (seg2 l i j) := by
 have h1 := Kd.C_take h hj; (have hl : (l.take j).length = j := by simp; omega); have h2 := Kd.C_drop (k := Kd.string) (m := i) (c := c) h1 (by omega) (by omega); rw [show i * Kd.string.sz = i from Nat.mul_one i] at h2; exact h2
theorem C_one (w : World) (s : ByteArray) : Kd.C Kd.string (w.alloc (.cells #[.string s] 9)) (some ⟨w.heap.size, 0, none⟩) [s].length [s] := by
 refine ⟨rfl, by simp, fun _ => ⟨_, rfl, fun j p hj => ?_⟩⟩
 obtain ⟨rfl, rfl⟩ : j = 0 ∧ s = p := by
  cases j with
  | zero => exact ⟨rfl, by simpa using hj⟩
  | succ j => simp at hj
 refine ⟨[.string s], rfl, rfl, fun i u hu => ?_⟩
 cases i with
 | zero =>
  obtain rfl : Value.string s = u := by simpa using hu
  exact (blk_cell (blk_new w (.cells #[.string s] 9)) 0).trans rfl
 | succ i => simp at hu
theorem smP_up2 {n : Nat} {ps : List Pt} (h : smP (2000 * n) ps) : smP (2000 * (n + 1)) ps := ⟨by have := h.1; omega, fun q hq => by have := h.2 q hq; omega⟩
theorem kept_size {w W : World} {S : Nat → Prop} (h : Kept w W S) : w.heap.size ≤ W.heap.size := by
 unfold Kept at h
 exact h.1
theorem C_dropS {w : World} {A : Option Addr} {l : List ByteArray} {i c : Nat} (h : Kd.C Kd.string w A l.length l) (hi : i ≤ l.length) (hc : l.length ≤ c) : Kd.C Kd.string w (if c = i then A else A.map (·.add i)) (l.drop i).length (l.drop i) := by
 have h2 := Kd.C_drop (k := Kd.string) (m := i) (c := c) h hi hc; rw [show i * Kd.string.sz = i from Nat.mul_one i] at h2; exact h2
/-- A part behind parts. -/
def putP (ps : List Pt) (p : Pt) : List Pt :=
 if p.f0 = false ∧ p.f1.length = 0 then ps else if 0 < ps.length ∧ p.f0 = false ∧ (ps.getLastD z31).f0 = false then ps.dropLast ++ [addL (ps.getLastD z31) p.f1] else ps ++ [p]
theorem putP_res (ps : List Pt) (l : List ByteArray) : putP ps ⟨false, l, [], [], []⟩ = res ps l := by
 unfold putP res
 by_cases h : l = []
 ·subst h; simp
 ·rw [if_neg (fun e => h (List.length_eq_zero_iff.mp e.2)), if_neg h]; by_cases c : 0 < ps.length ∧ (ps.getLastD z31).f0 = false
  ·rw [if_pos c, if_pos ⟨c.1, rfl, c.2⟩]
  ·rw [if_neg c, if_neg (fun e => c ⟨e.1, e.2.2⟩)]
theorem putP_clash (ps : List Pt) (x y z u : List ByteArray) : putP ps ⟨true, x, y, z, u⟩ = ps ++ [⟨true, x, y, z, u⟩] := by
 unfold putP
 rw [if_neg (fun e => by cases e.1), if_neg (fun e => by cases e.2.1)]
theorem putP_nil {ps : List Pt} {p : Pt} (h : p.f0 = false) (hl : p.f1.length = 0) : putP ps p = ps := by unfold putP; rw [if_pos ⟨h, hl⟩]
theorem putP_true {ps : List Pt} {p : Pt} (h : p.f0 = true) : putP ps p = ps ++ [p] := by
 unfold putP
 rw [if_neg (fun e => by rw [h] at e; cases e.1), if_neg (fun e => by rw [h] at e; cases e.2.1)]
theorem putP_new {ps : List Pt} {p : Pt} (h : p.f1.length ≠ 0) (hp : ps = [] ∨ ∃ q x, ps = q ++ [x] ∧ x.f0 = true) : putP ps p = ps ++ [p] := by
 unfold putP
 rw [if_neg (fun e => h e.2)]
 rcases hp with rfl | ⟨q, x, rfl, hp⟩
 ·rw [if_neg (by simp)]
 ·rw [if_neg (by simp [List.getLastD_eq_getLast?, hp])]
theorem putP_old {q : List Pt} {x p : Pt} (h : p.f1.length ≠ 0) (h0 : p.f0 = false) (hp : x.f0 = false) : putP (q ++ [x]) p = q ++ [addL x p.f1] := by
 unfold putP
 rw [if_neg (fun e => h e.2), if_pos (by simp [List.getLastD_eq_getLast?, hp, h0])]
 simp [List.getLastD_eq_getLast?]
set_option maxHeartbeats 4000000 in
set_option maxRecDepth 100000 in
theorem resolved_calls (w0 w : World) (g : Nat) (v : Value) (ps : List Pt) (N M : Nat) (A : Option Addr) (c : Nat) (l : List ByteArray) (hG : w.heap[g]? = some (.cells #[v] 79 (0, 0))) (hS : Kd.S kPt 31 w w0.heap.size (fun k => M ≤ k) v ps) (hgM : g < M) (hM : M ≤ w.heap.size) (hr : Kd.C Kd.string w A l.length l) (hc : l.length ≤ c) (hB : Below w0.heap.size w0 w) (hg0 : w0.heap.size ≤ g) (hP : smP N ps) (hN : N ≤ 100000000) (hl : l.length ≤ 1000) :
 Calls Try.prog 81 #[.pointer (some ⟨g, 0, none⟩), .slice A l.length c] w fun e w' => e = .returned (.tuple #[]) ∧ (∃ v', w'.heap[g]? = some (.cells #[v'] 79 (0, 0)) ∧ Kd.S kPt 31 w' w0.heap.size (fun k => M ≤ k) v' (res ps l)) ∧ Below w0.heap.size w0 w' ∧ Kept w w' (fun k => M ≤ k ∨ k = g) := by
 obtain ⟨Av, n, cv, rfl, hn⟩ : ∃ Av n cv, v = .slice Av n cv ∧ n = ps.length := by
  obtain ⟨Av, cv, rfl⟩ := Kd.S_slice hS; exact ⟨Av, _, cv, rfl, rfl⟩
 have hcg : w.cell? ⟨g, 0, none⟩ = some (.slice Av n cv) := (blk_cell hG 0).trans rfl; have hzg : w.frozen? ⟨g, 0, none⟩ = false := blk_frozen hG 0; (have hnl : n ≤ 100000000 := by have := hP.1; omega); have HG := Aside0.mk hG; have HS := Aside0.mk hS; have HR := Aside0.mk hr; have HC := Aside0.mk hc; have HB := Aside0.mk hB; have HP := Aside0.mk hP; have HL := Aside0.mk hl; have HX := Aside0.mk (And.intro hgM (And.intro hM hg0)); have HN := Aside0.mk hN; clear hG hS hr hc hB hP hl hgM hM hg0 hN; go_enter Try.func81, Try.ntmps81; by_cases e : l.length = 0
 ·have q1 : ((l.length : Int) == 0) = true := beq_iff_eq.mpr (by omega); go_wp2; go_end0; have : l = [] := List.length_eq_zero_iff.mp e; subst this; exact ⟨rfl, ⟨_, HG.out, by rw [res, if_pos rfl]; exact HS.out⟩, HB.out, Kept.refl _ _⟩
 ·have q1 : ((l.length : Int) == 0) = false := beq_eq_false_iff_ne.mpr (by omega)
  rcases List.eq_nil_or_concat ps with rfl | ⟨q, p, hqp⟩
  ·obtain rfl : n = 0 := hn; have HE := Aside0.mk (res_new (ps := []) e (.inl rfl)); go_wp2; have HS2 := Aside0.mk (Kd.S_drew HS.out); have HG2 := Aside0.mk (blk_drew HG.out); have HB2 := Aside0.mk (below_drew1 HB.out); have HR2 := Aside0.mk (Kd.C_drew HR.out); have HK2 := Aside0.mk ((Kept.refl w (fun k => M ≤ k ∨ k = g)).drew); have hM2 : M ≤ w.drew.heap.size := HX.out.2.1; have hcg2 : w.drew.cell? ⟨g, 0, none⟩ = some (.slice Av 0 cv) := (blk_cell HG2.out 0).trans rfl; clear HS HG HB HR hcg hzg; refine start_ (n := 13) (S := fun w' => w'.cell? ⟨g, 0, none⟩ = some (.slice Av 0 cv)) (ds := [12]) #[f_, f_, f_, f_, f_, f_, f_, f_, f_, f_, f_, f_, f_] (by kernel_rfl) rfl rfl (hcg2) (fun hHeld => ?_); generalize w.drew = w1 at HS2 HG2 HB2 HR2 HK2 hM2 hcg2 hHeld ⊢; refine pure_ (i := 0) (N := some 11) (v := ?_) (a' := ?_) #[t_, f_, f_, f_, f_, f_, f_, f_, f_, f_, f_, f_, f_] rfl rfl (by kernel_rfl) (fun _ _ _ h => h) (Or.inl ⟨by rfl, ?_⟩) ?_ ?_
   rotate_left
   ·intro w'; go_simp
    with_reducible rfl
   rotate_left
   ·simp only [Act.put, List.setIfInBounds_toArray, List.set_cons_zero, List.set_cons_succ, i64_w, i32_w]
    rfl
   refine pure_ (i := 1) (N := some 12) (v := ?_) (a' := ?_) #[t_, t_, f_, f_, f_, f_, f_, f_, f_, f_, f_, f_, f_] rfl rfl (by kernel_rfl) (fun _ _ _ h => h) (Or.inl ⟨by rfl, ?_⟩) ?_ ?_
   rotate_left
   ·intro w'; go_simp
    with_reducible rfl
   rotate_left
   ·simp only [Act.put, List.setIfInBounds_toArray, List.set_cons_zero, List.set_cons_succ, i64_w, i32_w]
    rfl
   refine pure_ (i := 2) (N := some 13) (v := ?_) (a' := ?_) #[t_, t_, t_, f_, f_, f_, f_, f_, f_, f_, f_, f_, f_] rfl rfl (by kernel_rfl) (fun _ _ _ h => h) (Or.inl ⟨by rfl, ?_⟩) ?_ ?_
   rotate_left
   ·intro w'; go_simp
    with_reducible rfl
   rotate_left
   ·simp only [Act.put, List.setIfInBounds_toArray, List.set_cons_zero, List.set_cons_succ, i64_w, i32_w]
    rfl
   refine pure_ (i := 3) (N := some 14) (v := ?_) (a' := ?_) #[t_, t_, t_, t_, f_, f_, f_, f_, f_, f_, f_, f_, f_] rfl rfl (by kernel_rfl) (fun _ _ _ h => h) (Or.inl ⟨by rfl, ?_⟩) ?_ ?_
   rotate_left
   ·intro w'; go_simp
    with_reducible rfl
   rotate_left
   ·simp only [Act.put, List.setIfInBounds_toArray, List.set_cons_zero, List.set_cons_succ, i64_w, i32_w]
    rfl
   refine pure_ (i := 5) (N := some 16) (v := ?_) (a' := ?_) #[t_, t_, t_, t_, f_, t_, f_, f_, f_, f_, f_, f_, f_] rfl rfl (by kernel_rfl) (fun _ _ _ h => h) (Or.inl ⟨by rfl, ?_⟩) ?_ ?_
   rotate_left
   ·intro w'; go_simp
    with_reducible rfl
   rotate_left
   ·simp only [Act.put, List.setIfInBounds_toArray, List.set_cons_zero, List.set_cons_succ, i64_w, i32_w]
    rfl
   refine take_ (i := 4) (N := some 15) (v := ?_) (a' := ?_) #[t_, t_, t_, t_, t_, t_, f_, f_, f_, f_, f_, f_, f_] rfl rfl (by kernel_rfl) (fun _ _ _ h => h) (Or.inl ⟨by rfl, ?_⟩) hHeld ?_ ?_
   rotate_left
   ·intro w' s0; go_simp
    with_reducible rfl
   rotate_left
   ·simp only [Act.put, List.setIfInBounds_toArray, List.set_cons_zero, List.set_cons_succ, i64_w, i32_w]
    rfl
   refine one_ (i := 6) (N := some 17) #[t_, t_, t_, t_, t_, t_, t_, f_, f_, f_, f_, f_, f_] rfl rfl (by kernel_rfl) (by decide) (fun K hK => ?_); refine goes_ Try.func65 (by kernel_rfl) rfl #[.slice A l.length c] (by rfl) rfl rfl (by simp only [List.map_toArray, List.map_cons, List.map_nil]; rfl) ?_
   with_reducible refine (slices_Clone_string_string.calls A c l l w1 HR2.out HC.out (by have := HL.out; unfold slices_Clone_string_string.f; rw [if_pos (by omega)])).mono ?_
   rintro e w3 ⟨v0, rfl, ho, hb⟩; refine ⟨_, rfl, ?_⟩; have HS3 := Aside0.mk (Kd.S_elder' HS2.out (Kd.R_base ho) hb); have HG3 := Aside0.mk (blk_below HG2.out hb); have HB3 := Aside0.mk (below_step HB2.out hb); have HK3 := Aside0.mk (HK2.out.below hb); have HO3 := Aside0.mk (Kd.R_lower ho (below_size HB2.out)); have HN3 := Aside0.mk (fun k (hk : v0.ownBlock = some k) => Nat.le_trans hM2 (Kd.R_base ho k hk)); have HV3 := Aside0.mk (fun k (hk : v0.ownBlock = some k) (h2 : (Value.slice Av 0 cv).ownBlock = some k) => Nat.lt_irrefl _ (Nat.lt_of_lt_of_le (Kd.S_lt HS2.out k h2) (Kd.R_base ho k hk))); have hM3 : M ≤ w3.heap.size := Nat.le_trans hM2 hb.size; have hcg3 : w3.cell? ⟨g, 0, none⟩ = some (.slice Av 0 cv) := (blk_cell HG3.out 0).trans rfl; obtain ⟨Ao, co, rfl⟩ := Kd.R_slice HO3.out; clear HS2 HG2 HB2 HR2 HK2 hM2 hcg2 hHeld ho hb; refine hK.out _ _ (hcg3) (fun hHeld => ?_); clear hK K; refine norm_ (a' := ?_) ?_ ?_
   rotate_left
   ·show Act.put _ (some 17) _ = _
    simp only [Act.put, List.setIfInBounds_toArray, List.set_cons_zero, List.set_cons_succ, i64_w, i32_w]
    rfl
   refine pure_ (i := 7) (N := some 18) (v := ?_) (a' := ?_) #[t_, t_, t_, t_, t_, t_, t_, t_, f_, f_, f_, f_, f_] rfl rfl (by kernel_rfl) (fun _ _ _ h => h) (Or.inl ⟨by rfl, ?_⟩) ?_ ?_
   rotate_left
   ·intro w'; go_simp
    with_reducible rfl
   rotate_left
   ·simp only [Act.put, List.setIfInBounds_toArray, List.set_cons_zero, List.set_cons_succ, i64_w, i32_w]
    rfl
   refine one_ (i := 8) (N := some 19) #[t_, t_, t_, t_, t_, t_, t_, t_, t_, f_, f_, f_, f_] rfl rfl (by kernel_rfl) (by decide) (fun K hK => ?_); refine value_ (w1 := ?_) (v := ?_) (by rfl) rfl ?_ ?_
   rotate_left 2
   ·go_simp
    constructor
    ·rfl
    ·rfl
   refine hK.out _ _ ((World.cell?_alloc_lt _ _ _ (World.block_lt_of_cell? _ _ hcg3)).trans hcg3) (fun hHeld => ?_); clear hK K; refine norm_ (a' := ?_) ?_ ?_
   rotate_left
   ·show Act.put _ (some 19) _ = _
    simp only [Act.put, List.setIfInBounds_toArray, List.set_cons_zero, List.set_cons_succ, i64_w, i32_w]
    rfl
   refine one_ (i := 9) (N := some 20) #[t_, t_, t_, t_, t_, t_, t_, t_, t_, t_, f_, f_, f_] rfl rfl (by kernel_rfl) (by decide) (fun K hK => ?_); refine Kd.S_append_step kPt (w0 := w0) w0.heap.size (by rfl) (.tmp 15) (.tmp 19) 26 31 (.agg #[.bool false, .slice none 0 0, .slice none 0 0, .slice none 0 0, .slice none 0 0]) 104 rfl Try.underlying26 infoPt rfl (by decide) (by omega) (.slice Av 0 cv) ([] : List Pt) (⟨false, l, [], [], []⟩ : Pt) [.bool false, .slice Ao l.length co, .slice none 0 0, .slice none 0 0, .slice none 0 0] (fun k => M ≤ k) (fun k => some k = (.slice Ao l.length co : Value).ownBlock) rfl rfl ?aP (fun k hk => ⟨HN3.out k hk.symm, fun h2 => HV3.out k hk.symm h2.symm⟩) (fun k hk => Nat.le_trans hM3 hk) ?aO HB3.out (below_size HB3.out) ?aL ?_
   (case aP => exact ⟨_, _, _, _, rfl, Kd.R_tight rfl HO3.out, Kd.R_nil _ _ _ _ _, Kd.R_nil _ _ _ _ _, Kd.R_nil _ _ _ _ _⟩)
   (case aO => exact HS3.out)
   (case aL => first | (simp; done) | (simp; omega))
   intro v5 w5 ho hb hg hat; obtain ⟨A5, n5, c5, rfl⟩ : ∃ A n c, v5 = .slice A n c := (by obtain ⟨A5, c5, h5⟩ := Kd.S_slice ho; exact ⟨A5, _, c5, h5⟩); have HG5 := Aside0.mk (blk_grown HG3.out hg (fun h => by have := Kd.S_R HS3.out; have := this.1 g h.symm; have := HX.out.1; omega)); have HK5 := Aside0.mk (Kept.of_grown hg HK3.out (fun k hk => by have := (Kd.S_R HS3.out).1 k hk; exact .inl (.inl this.1))); have hcg5 : w5.cell? ⟨g, 0, none⟩ = some (.slice Av 0 cv) := (blk_cell HG5.out 0).trans rfl; have hzg5 : w5.frozen? ⟨g, 0, none⟩ = false := blk_frozen HG5.out 0; refine hK.out _ _ (hcg5) (fun hHeld => ?_); clear hK K; refine norm_ (a' := ?_) ?_ ?_
   rotate_left
   ·show Act.put _ (some 20) _ = _
    simp only [Act.put, List.setIfInBounds_toArray, List.set_cons_zero, List.set_cons_succ, i64_w, i32_w]
    rfl
   refine pure_ (i := 10) (N := some 21) (v := ?_) (a' := ?_) #[t_, t_, t_, t_, t_, t_, t_, t_, t_, t_, t_, f_, f_] rfl rfl (by kernel_rfl) (fun _ _ _ h => h) (Or.inl ⟨by rfl, ?_⟩) ?_ ?_
   rotate_left
   ·intro w'; go_simp
    with_reducible rfl
   rotate_left
   ·simp only [Act.put, List.setIfInBounds_toArray, List.set_cons_zero, List.set_cons_succ, i64_w, i32_w]
    rfl
   refine pure_ (i := 11) (N := some 22) (v := ?_) (a' := ?_) #[t_, t_, t_, t_, t_, t_, t_, t_, t_, t_, t_, t_, f_] rfl rfl (by kernel_rfl) (fun _ _ _ h => h) (Or.inl ⟨by rfl, ?_⟩) ?_ ?_
   rotate_left
   ·intro w'; go_simp
    with_reducible rfl
   rotate_left
   ·simp only [Act.put, List.setIfInBounds_toArray, List.set_cons_zero, List.set_cons_succ, i64_w, i32_w]
    rfl
   refine last_ (i := 12) (N := none) #[t_, t_, t_, t_, t_, t_, t_, t_, t_, t_, t_, t_, t_] rfl rfl (by kernel_rfl) (by decide) (fun K hK => ?_); refine skip_ (w1 := ?_) (by rfl) rfl ?_ ?_
   rotate_left
   ·go_simp
    rfl
   refine hK.out _ _ ?_; clear hK K; refine done_ (by kernel_rfl) ?_; go_wp2; go_end0; exact ⟨rfl, ⟨_, (blk_set HG5.out 0 _).trans rfl, by rw [HE.out]; exact Kd.S_far ho (fun k hk => by have := HX.out.1; show k ≠ g; omega) _⟩, below_set hb HX.out.2.2, HK5.out.setCell (.inl (.inr rfl)) _⟩
  ·rw [List.concat_eq_append] at hqp; subst hqp; (obtain rfl : n = q.length + 1 := by simpa using hn); clear hn; obtain ⟨gv, cap, ev, hgv0, hgvl, cells, hgvc⟩ := Kd.S_form HS.out (by simp); have HGV := Aside0.mk hgvc; clear hgvc; obtain ⟨rfl, hz1, rfl⟩ := Value.slice.inj ev; clear ev hz1; obtain ⟨oki, A1, c1, v2, v3, v4, hR1, hR2, hR3, hR4, hz2, hx0, hx1, hoki, hokl, hH⟩ := last_lend HS.out; clear hz2; have HIL := Aside0.mk (fun k hk => (show k < w.heap.size from hokl k hk)); (have hw1 : wrap64 (q.length : Int) = (q.length : Int) := by unfold wrap64; omega)
   cases hpf : p.f0 with
   | true =>
    have HE := Aside0.mk (res_new (ps := q ++ [p]) e (.inr ⟨q, p, rfl, hpf⟩)); rw [hpf] at hx0; clear hR1 hR2 hR3 hR4 hH hoki hx1 hokl HIL; go_wp2; have HS2 := Aside0.mk (Kd.S_drew HS.out); have HG2 := Aside0.mk (blk_drew HG.out); have HB2 := Aside0.mk (below_drew1 HB.out); have HR2 := Aside0.mk (Kd.C_drew HR.out); have HK2 := Aside0.mk ((Kept.refl w (fun k => M ≤ k ∨ k = g)).drew); have hM2 : M ≤ w.drew.heap.size := HX.out.2.1; have hcg2 : w.drew.cell? ⟨g, 0, none⟩ = some (.slice (some ⟨gv, 0, none⟩) (q.length + 1) cv) := (blk_cell HG2.out 0).trans rfl; clear HS HG HB HR hcg hzg; refine start_ (n := 13) (S := fun w' => w'.cell? ⟨g, 0, none⟩ = some (.slice (some ⟨gv, 0, none⟩) (q.length + 1) cv)) (ds := [12]) #[f_, f_, f_, f_, f_, f_, f_, f_, f_, f_, f_, f_, f_] (by kernel_rfl) rfl rfl (hcg2) (fun hHeld => ?_); generalize w.drew = w1 at HS2 HG2 HB2 HR2 HK2 hM2 hcg2 hHeld ⊢; refine pure_ (i := 0) (N := some 11) (v := ?_) (a' := ?_) #[t_, f_, f_, f_, f_, f_, f_, f_, f_, f_, f_, f_, f_] rfl rfl (by kernel_rfl) (fun _ _ _ h => h) (Or.inl ⟨by rfl, ?_⟩) ?_ ?_
    rotate_left
    ·intro w'; go_simp
     with_reducible rfl
    rotate_left
    ·simp only [Act.put, List.setIfInBounds_toArray, List.set_cons_zero, List.set_cons_succ, i64_w, i32_w]
     rfl
    refine pure_ (i := 1) (N := some 12) (v := ?_) (a' := ?_) #[t_, t_, f_, f_, f_, f_, f_, f_, f_, f_, f_, f_, f_] rfl rfl (by kernel_rfl) (fun _ _ _ h => h) (Or.inl ⟨by rfl, ?_⟩) ?_ ?_
    rotate_left
    ·intro w'; go_simp
     with_reducible rfl
    rotate_left
    ·simp only [Act.put, List.setIfInBounds_toArray, List.set_cons_zero, List.set_cons_succ, i64_w, i32_w]
     rfl
    refine pure_ (i := 2) (N := some 13) (v := ?_) (a' := ?_) #[t_, t_, t_, f_, f_, f_, f_, f_, f_, f_, f_, f_, f_] rfl rfl (by kernel_rfl) (fun _ _ _ h => h) (Or.inl ⟨by rfl, ?_⟩) ?_ ?_
    rotate_left
    ·intro w'; go_simp
     with_reducible rfl
    rotate_left
    ·simp only [Act.put, List.setIfInBounds_toArray, List.set_cons_zero, List.set_cons_succ, i64_w, i32_w]
     rfl
    refine pure_ (i := 3) (N := some 14) (v := ?_) (a' := ?_) #[t_, t_, t_, t_, f_, f_, f_, f_, f_, f_, f_, f_, f_] rfl rfl (by kernel_rfl) (fun _ _ _ h => h) (Or.inl ⟨by rfl, ?_⟩) ?_ ?_
    rotate_left
    ·intro w'; go_simp
     with_reducible rfl
    rotate_left
    ·simp only [Act.put, List.setIfInBounds_toArray, List.set_cons_zero, List.set_cons_succ, i64_w, i32_w]
     rfl
    refine pure_ (i := 5) (N := some 16) (v := ?_) (a' := ?_) #[t_, t_, t_, t_, f_, t_, f_, f_, f_, f_, f_, f_, f_] rfl rfl (by kernel_rfl) (fun _ _ _ h => h) (Or.inl ⟨by rfl, ?_⟩) ?_ ?_
    rotate_left
    ·intro w'; go_simp
     with_reducible rfl
    rotate_left
    ·simp only [Act.put, List.setIfInBounds_toArray, List.set_cons_zero, List.set_cons_succ, i64_w, i32_w]
     rfl
    refine take_ (i := 4) (N := some 15) (v := ?_) (a' := ?_) #[t_, t_, t_, t_, t_, t_, f_, f_, f_, f_, f_, f_, f_] rfl rfl (by kernel_rfl) (fun _ _ _ h => h) (Or.inl ⟨by rfl, ?_⟩) hHeld ?_ ?_
    rotate_left
    ·intro w' s0; go_simp
     with_reducible rfl
    rotate_left
    ·simp only [Act.put, List.setIfInBounds_toArray, List.set_cons_zero, List.set_cons_succ, i64_w, i32_w]
     rfl
    refine one_ (i := 6) (N := some 17) #[t_, t_, t_, t_, t_, t_, t_, f_, f_, f_, f_, f_, f_] rfl rfl (by kernel_rfl) (by decide) (fun K hK => ?_); refine goes_ Try.func65 (by kernel_rfl) rfl #[.slice A l.length c] (by rfl) rfl rfl (by simp only [List.map_toArray, List.map_cons, List.map_nil]; rfl) ?_
    with_reducible refine (slices_Clone_string_string.calls A c l l w1 HR2.out HC.out (by have := HL.out; unfold slices_Clone_string_string.f; rw [if_pos (by omega)])).mono ?_
    rintro e w3 ⟨v0, rfl, ho, hb⟩; refine ⟨_, rfl, ?_⟩; have HS3 := Aside0.mk (Kd.S_elder' HS2.out (Kd.R_base ho) hb); have HG3 := Aside0.mk (blk_below HG2.out hb); have HB3 := Aside0.mk (below_step HB2.out hb); have HK3 := Aside0.mk (HK2.out.below hb); have HO3 := Aside0.mk (Kd.R_lower ho (below_size HB2.out)); have HN3 := Aside0.mk (fun k (hk : v0.ownBlock = some k) => Nat.le_trans hM2 (Kd.R_base ho k hk)); have HV3 := Aside0.mk (fun k (hk : v0.ownBlock = some k) (h2 : (Value.slice (some ⟨gv, 0, none⟩) (q.length + 1) cv).ownBlock = some k) => Nat.lt_irrefl _ (Nat.lt_of_lt_of_le (Kd.S_lt HS2.out k h2) (Kd.R_base ho k hk))); have hM3 : M ≤ w3.heap.size := Nat.le_trans hM2 hb.size; have hcg3 : w3.cell? ⟨g, 0, none⟩ = some (.slice (some ⟨gv, 0, none⟩) (q.length + 1) cv) := (blk_cell HG3.out 0).trans rfl; obtain ⟨Ao, co, rfl⟩ := Kd.R_slice HO3.out; clear HS2 HG2 HB2 HR2 HK2 hM2 hcg2 hHeld ho hb; refine hK.out _ _ (hcg3) (fun hHeld => ?_); clear hK K; refine norm_ (a' := ?_) ?_ ?_
    rotate_left
    ·show Act.put _ (some 17) _ = _
     simp only [Act.put, List.setIfInBounds_toArray, List.set_cons_zero, List.set_cons_succ, i64_w, i32_w]
     rfl
    refine pure_ (i := 7) (N := some 18) (v := ?_) (a' := ?_) #[t_, t_, t_, t_, t_, t_, t_, t_, f_, f_, f_, f_, f_] rfl rfl (by kernel_rfl) (fun _ _ _ h => h) (Or.inl ⟨by rfl, ?_⟩) ?_ ?_
    rotate_left
    ·intro w'; go_simp
     with_reducible rfl
    rotate_left
    ·simp only [Act.put, List.setIfInBounds_toArray, List.set_cons_zero, List.set_cons_succ, i64_w, i32_w]
     rfl
    refine one_ (i := 8) (N := some 19) #[t_, t_, t_, t_, t_, t_, t_, t_, t_, f_, f_, f_, f_] rfl rfl (by kernel_rfl) (by decide) (fun K hK => ?_); refine value_ (w1 := ?_) (v := ?_) (by rfl) rfl ?_ ?_
    rotate_left 2
    ·go_simp
     constructor
     ·rfl
     ·rfl
    refine hK.out _ _ ((World.cell?_alloc_lt _ _ _ (World.block_lt_of_cell? _ _ hcg3)).trans hcg3) (fun hHeld => ?_); clear hK K; refine norm_ (a' := ?_) ?_ ?_
    rotate_left
    ·show Act.put _ (some 19) _ = _
     simp only [Act.put, List.setIfInBounds_toArray, List.set_cons_zero, List.set_cons_succ, i64_w, i32_w]
     rfl
    refine one_ (i := 9) (N := some 20) #[t_, t_, t_, t_, t_, t_, t_, t_, t_, t_, f_, f_, f_] rfl rfl (by kernel_rfl) (by decide) (fun K hK => ?_); refine Kd.S_append_step kPt (w0 := w0) w0.heap.size (by rfl) (.tmp 15) (.tmp 19) 26 31 (.agg #[.bool false, .slice none 0 0, .slice none 0 0, .slice none 0 0, .slice none 0 0]) 104 rfl Try.underlying26 infoPt rfl (by decide) (by omega) (.slice (some ⟨gv, 0, none⟩) (q.length + 1) cv) (q ++ [p]) (⟨false, l, [], [], []⟩ : Pt) [.bool false, .slice Ao l.length co, .slice none 0 0, .slice none 0 0, .slice none 0 0] (fun k => M ≤ k) (fun k => some k = (.slice Ao l.length co : Value).ownBlock) rfl rfl ?aP (fun k hk => ⟨HN3.out k hk.symm, fun h2 => HV3.out k hk.symm h2.symm⟩) (fun k hk => Nat.le_trans hM3 hk) ?aO HB3.out (below_size HB3.out) ?aL ?_
    (case aP => exact ⟨_, _, _, _, rfl, Kd.R_tight rfl HO3.out, Kd.R_nil _ _ _ _ _, Kd.R_nil _ _ _ _ _, Kd.R_nil _ _ _ _ _⟩)
    (case aO => exact HS3.out)
    (case aL => first | (simp; done) | (simp; omega))
    intro v5 w5 ho hb hg hat; obtain ⟨A5, n5, c5, rfl⟩ : ∃ A n c, v5 = .slice A n c := (by obtain ⟨A5, c5, h5⟩ := Kd.S_slice ho; exact ⟨A5, _, c5, h5⟩); have HG5 := Aside0.mk (blk_grown HG3.out hg (fun h => by have := Kd.S_R HS3.out; have := this.1 g h.symm; have := HX.out.1; omega)); have HK5 := Aside0.mk (Kept.of_grown hg HK3.out (fun k hk => by have := (Kd.S_R HS3.out).1 k hk; exact .inl (.inl this.1))); have hcg5 : w5.cell? ⟨g, 0, none⟩ = some (.slice (some ⟨gv, 0, none⟩) (q.length + 1) cv) := (blk_cell HG5.out 0).trans rfl; have hzg5 : w5.frozen? ⟨g, 0, none⟩ = false := blk_frozen HG5.out 0; refine hK.out _ _ (hcg5) (fun hHeld => ?_); clear hK K; refine norm_ (a' := ?_) ?_ ?_
    rotate_left
    ·show Act.put _ (some 20) _ = _
     simp only [Act.put, List.setIfInBounds_toArray, List.set_cons_zero, List.set_cons_succ, i64_w, i32_w]
     rfl
    refine pure_ (i := 10) (N := some 21) (v := ?_) (a' := ?_) #[t_, t_, t_, t_, t_, t_, t_, t_, t_, t_, t_, f_, f_] rfl rfl (by kernel_rfl) (fun _ _ _ h => h) (Or.inl ⟨by rfl, ?_⟩) ?_ ?_
    rotate_left
    ·intro w'; go_simp
     with_reducible rfl
    rotate_left
    ·simp only [Act.put, List.setIfInBounds_toArray, List.set_cons_zero, List.set_cons_succ, i64_w, i32_w]
     rfl
    refine pure_ (i := 11) (N := some 22) (v := ?_) (a' := ?_) #[t_, t_, t_, t_, t_, t_, t_, t_, t_, t_, t_, t_, f_] rfl rfl (by kernel_rfl) (fun _ _ _ h => h) (Or.inl ⟨by rfl, ?_⟩) ?_ ?_
    rotate_left
    ·intro w'; go_simp
     with_reducible rfl
    rotate_left
    ·simp only [Act.put, List.setIfInBounds_toArray, List.set_cons_zero, List.set_cons_succ, i64_w, i32_w]
     rfl
    refine last_ (i := 12) (N := none) #[t_, t_, t_, t_, t_, t_, t_, t_, t_, t_, t_, t_, t_] rfl rfl (by kernel_rfl) (by decide) (fun K hK => ?_); refine skip_ (w1 := ?_) (by rfl) rfl ?_ ?_
    rotate_left
    ·go_simp
     rfl
    refine hK.out _ _ ?_; clear hK K; refine done_ (by kernel_rfl) ?_; go_wp2; go_end0
    exact ⟨rfl, ⟨_, (blk_set HG5.out 0 _).trans rfl, by rw [HE.out]; exact Kd.S_far ho (fun k hk => by have := HX.out.1; show k ≠ g; omega) _⟩, below_set hb HX.out.2.2, HK5.out.setCell (.inl (.inr rfl)) _⟩
   | false =>
    have HE := Aside0.mk (res_old (q := q) e hpf); rw [hpf] at hx0; have HR1 := Aside0.mk hR1; have HR2 := Aside0.mk hR2; have HR3 := Aside0.mk hR3; have HR4 := Aside0.mk hR4; have HH := Aside0.mk hH; have HI := Aside0.mk hoki; clear hR1 hR2 hR3 hR4 hH hoki hokl; go_wp2; (have hlt9 : (q.length : Int) < (q.length : Int) + 1 := by omega); have HG2 := Aside0.mk (blk_drew HG.out); have HGV2 := Aside0.mk (blk_drew HGV.out); have HB2 := Aside0.mk (below_drew1 HB.out); have HRd := Aside0.mk (Kd.C_drew HR.out); have HK2 := Aside0.mk ((Kept.refl w (fun k => M ≤ k ∨ k = g)).drew); have hM2 : M ≤ w.drew.heap.size := HX.out.2.1; have HI2 := Aside0.mk (fun k hk => And.intro (HI.out k hk) (show k < w.drew.heap.size from HIL.out k hk)); have HS2 := Aside0.mk (Kd.S_drew HS.out); have HR12 := Aside0.mk (Kd.R_drew HR1.out); have HR22 := Aside0.mk (Kd.R_drew HR2.out); have HR32 := Aside0.mk (Kd.R_drew HR3.out); have HR42 := Aside0.mk (Kd.R_drew HR4.out); have HH2 := Aside0.mk (Kd.H_drew HH.out); have hcg2 : w.drew.cell? ⟨g, 0, none⟩ = some (.slice (some ⟨gv, 0, none⟩) (q.length + 1) cv) := hcg; have hx2 : w.drew.cell? ⟨gv, q.length * 5 + 1, none⟩ = some (.slice A1 p.f1.length c1) := hx1; clear HS HG HB HR hcg hzg HGV HI HIL HR1 HR2 HR3 HR4 HH hx1 hx0 hgv0 hgvl; refine start_ (n := 18) (S := fun w' => w'.cell? ⟨g, 0, none⟩ = some (.slice (some ⟨gv, 0, none⟩) (q.length + 1) cv) ∧ w'.cell? ⟨gv, q.length * 5 + 1, none⟩ = some (.slice A1 p.f1.length c1)) (ds := [17]) #[f_, f_, f_, f_, f_, f_, f_, f_, f_, f_, f_, f_, f_, f_, f_, f_, f_, f_] (by kernel_rfl) rfl rfl ⟨hcg2, hx2⟩ (fun hHeld => ?_); generalize w.drew = w1 at HS2 HG2 HB2 HRd HK2 hM2 hcg2 hx2 HI2 HGV2 HR12 HR22 HR32 HR42 HH2 hHeld ⊢; refine pure_ (i := 0) (N := some 41) (v := ?_) (a' := ?_) #[t_, f_, f_, f_, f_, f_, f_, f_, f_, f_, f_, f_, f_, f_, f_, f_, f_, f_] rfl rfl (by kernel_rfl) (fun _ _ _ h => h) (Or.inl ⟨by rfl, ?_⟩) ?_ ?_
    rotate_left
    ·intro w'; go_simp
     with_reducible rfl
    rotate_left
    ·simp only [Act.put, List.setIfInBounds_toArray, List.set_cons_zero, List.set_cons_succ, i64_w, i32_w]
     rfl
    refine pure_ (i := 1) (N := some 42) (v := ?_) (a' := ?_) #[t_, t_, f_, f_, f_, f_, f_, f_, f_, f_, f_, f_, f_, f_, f_, f_, f_, f_] rfl rfl (by kernel_rfl) (fun _ _ _ h => h) (Or.inl ⟨by rfl, ?_⟩) ?_ ?_
    rotate_left
    ·intro w'; go_simp
     with_reducible rfl
    rotate_left
    ·simp only [Act.put, List.setIfInBounds_toArray, List.set_cons_zero, List.set_cons_succ, i64_w, i32_w]
     rfl
    refine pure_ (i := 2) (N := some 43) (v := ?_) (a' := ?_) #[t_, t_, t_, f_, f_, f_, f_, f_, f_, f_, f_, f_, f_, f_, f_, f_, f_, f_] rfl rfl (by kernel_rfl) (fun _ _ _ h => h) (Or.inl ⟨by rfl, ?_⟩) ?_ ?_
    rotate_left
    ·intro w'; go_simp
     with_reducible rfl
    rotate_left
    ·simp only [Act.put, List.setIfInBounds_toArray, List.set_cons_zero, List.set_cons_succ, i64_w, i32_w]
     rfl
    refine pure_ (i := 4) (N := some 45) (v := ?_) (a' := ?_) #[t_, t_, t_, f_, t_, f_, f_, f_, f_, f_, f_, f_, f_, f_, f_, f_, f_, f_] rfl rfl (by kernel_rfl) (fun _ _ _ h => h) (Or.inl ⟨by rfl, ?_⟩) ?_ ?_
    rotate_left
    ·intro w'; go_simp
     with_reducible rfl
    rotate_left
    ·simp only [Act.put, List.setIfInBounds_toArray, List.set_cons_zero, List.set_cons_succ, i64_w, i32_w]
     rfl
    refine pure_ (i := 5) (N := some 46) (v := ?_) (a' := ?_) #[t_, t_, t_, f_, t_, t_, f_, f_, f_, f_, f_, f_, f_, f_, f_, f_, f_, f_] rfl rfl (by kernel_rfl) (fun _ _ _ h => h) (Or.inl ⟨by rfl, ?_⟩) ?_ ?_
    rotate_left
    ·intro w'; go_simp
     with_reducible rfl
    rotate_left
    ·simp only [Act.put, List.setIfInBounds_toArray, List.set_cons_zero, List.set_cons_succ, i64_w, i32_w]
     rfl
    refine pure_ (i := 6) (N := some 47) (v := ?_) (a' := ?_) #[t_, t_, t_, f_, t_, t_, t_, f_, f_, f_, f_, f_, f_, f_, f_, f_, f_, f_] rfl rfl (by kernel_rfl) (fun _ _ _ h => h) (Or.inl ⟨by rfl, ?_⟩) ?_ ?_
    rotate_left
    ·intro w'; go_simp
     with_reducible rfl
    rotate_left
    ·simp only [Act.put, List.setIfInBounds_toArray, List.set_cons_zero, List.set_cons_succ, i64_w, i32_w]
     rfl
    refine pure_ (i := 7) (N := some 48) (v := ?_) (a' := ?_) #[t_, t_, t_, f_, t_, t_, t_, t_, f_, f_, f_, f_, f_, f_, f_, f_, f_, f_] rfl rfl (by kernel_rfl) (fun _ _ _ h => h) (Or.inl ⟨by rfl, ?_⟩) ?_ ?_
    rotate_left
    ·intro w'; go_simp
     with_reducible rfl
    rotate_left
    ·simp only [Act.put, List.setIfInBounds_toArray, List.set_cons_zero, List.set_cons_succ, i64_w, i32_w]
     rfl
    refine pure_ (i := 9) (N := some 50) (v := ?_) (a' := ?_) #[t_, t_, t_, f_, t_, t_, t_, t_, f_, t_, f_, f_, f_, f_, f_, f_, f_, f_] rfl rfl (by kernel_rfl) (fun _ _ _ h => h) (Or.inl ⟨by rfl, ?_⟩) ?_ ?_
    rotate_left
    ·intro w'; go_simp
     with_reducible rfl
    rotate_left
    ·simp only [Act.put, List.setIfInBounds_toArray, List.set_cons_zero, List.set_cons_succ, i64_w, i32_w]
     rfl
    refine pure_ (i := 13) (N := some 54) (v := ?_) (a' := ?_) #[t_, t_, t_, f_, t_, t_, t_, t_, f_, t_, f_, f_, f_, t_, f_, f_, f_, f_] rfl rfl (by kernel_rfl) (fun _ _ _ h => h) (Or.inl ⟨by rfl, ?_⟩) ?_ ?_
    rotate_left
    ·intro w'; go_simp
     with_reducible rfl
    rotate_left
    ·simp only [Act.put, List.setIfInBounds_toArray, List.set_cons_zero, List.set_cons_succ, i64_w, i32_w]
     rfl
    refine take_ (i := 3) (N := some 44) (v := ?_) (a' := ?_) #[t_, t_, t_, t_, t_, t_, t_, t_, f_, t_, f_, f_, f_, t_, f_, f_, f_, f_] rfl rfl (by kernel_rfl) (fun _ _ _ h => h) (Or.inl ⟨by rfl, ?_⟩) hHeld ?_ ?_
    rotate_left
    ·rintro w' ⟨s0, s1⟩; go_simp
     with_reducible rfl
    rotate_left
    ·simp only [Act.put, List.setIfInBounds_toArray, List.set_cons_zero, List.set_cons_succ, i64_w, i32_w]
     rfl
    refine take_ (i := 8) (N := some 49) (v := ?_) (a' := ?_) #[t_, t_, t_, t_, t_, t_, t_, t_, t_, t_, f_, f_, f_, t_, f_, f_, f_, f_] rfl rfl (by kernel_rfl) (fun _ _ _ h => h) (Or.inl ⟨by rfl, ?_⟩) hHeld ?_ ?_
    rotate_left
    ·rintro w' ⟨s0, s1⟩; go_simp
     with_reducible rfl
    rotate_left
    ·simp only [Act.put, List.setIfInBounds_toArray, List.set_cons_zero, List.set_cons_succ, i64_w, i32_w]
     rfl
    refine pure_ (i := 10) (N := some 51) (v := ?_) (a' := ?_) #[t_, t_, t_, t_, t_, t_, t_, t_, t_, t_, t_, f_, f_, t_, f_, f_, f_, f_] rfl rfl (by kernel_rfl) (fun _ _ _ h => h) (Or.inl ⟨by rfl, ?_⟩) ?_ ?_
    rotate_left
    ·intro w'; go_simp
     with_reducible rfl
    rotate_left
    ·simp only [Act.put, List.setIfInBounds_toArray, List.set_cons_zero, List.set_cons_succ, i64_w, i32_w]
     rfl
    refine pure_ (i := 11) (N := some 52) (v := ?_) (a' := ?_) #[t_, t_, t_, t_, t_, t_, t_, t_, t_, t_, t_, t_, f_, t_, f_, f_, f_, f_] rfl rfl (by kernel_rfl) (fun _ _ _ h => h) (Or.inl ⟨by rfl, ?_⟩) ?_ ?_
    rotate_left
    ·intro w'; go_simp
     with_reducible rfl
    rotate_left
    ·simp only [Act.put, List.setIfInBounds_toArray, List.set_cons_zero, List.set_cons_succ, i64_w, i32_w]
     rfl
    refine take_ (i := 12) (N := some 53) (v := ?_) (a' := ?_) #[t_, t_, t_, t_, t_, t_, t_, t_, t_, t_, t_, t_, t_, t_, f_, f_, f_, f_] rfl rfl (by kernel_rfl) (fun _ _ _ h => h) (Or.inl ⟨by rfl, ?_⟩) hHeld ?_ ?_
    rotate_left
    ·rintro w' ⟨s0, s1⟩; go_simp
     with_reducible rfl
    rotate_left
    ·simp only [Act.put, List.setIfInBounds_toArray, List.set_cons_zero, List.set_cons_succ, i64_w, i32_w]
     rfl
    refine one_ (i := 14) (N := some 55) #[t_, t_, t_, t_, t_, t_, t_, t_, t_, t_, t_, t_, t_, t_, t_, f_, f_, f_] rfl rfl (by kernel_rfl) (by decide) (fun K hK => ?_); refine Kd.R_append_rows_step Kd.string (w0 := w0) w0.heap.size (by rfl) (.tmp 53) (.tmp 54) 23 9 (.string ⟨#[]⟩) 16 rfl Try.underlying23 info9 rfl (by decide) (by omega) (.slice A1 p.f1.length c1) p.f1 l A l.length c (fun k => oki k ∨ w1.heap.size ≤ k) (fun _ => False) rfl rfl ?aO HRd.out (fun _ _ h => h) (fun _ h => h.elim) (fun k hk => .inr hk) HB2.out (below_size HB2.out) ?aL ?_
    (case aO => exact Kd.R_mono HR12.out (fun k hk => .inl hk))
    (case aL => have h1 := HP.out.2 p (by simp); have h2 := HP.out.1; have h3 := HN.out; have h4 := HL.out; omega)
    intro v5 w5 ho hb hg hat; have hgne : ∀ k, (Value.slice A1 p.f1.length c1).ownBlock = some k → oki k := HR12.out.1; have HG5 := Aside0.mk (blk_grown HG2.out hg (fun h => by have h1 := (HI2.out g (hgne g h.symm)).1.1; have := HX.out.1; omega)); have HGV5 := Aside0.mk (blk_grown HGV2.out hg (fun h => (HI2.out gv (hgne gv h.symm)).1.2 rfl)); have HK5 := Aside0.mk (Kept.of_grown hg HK2.out (fun k hk => .inl (.inl (HI2.out k (hgne k hk)).1.1))); have hcg5 : w5.cell? ⟨g, 0, none⟩ = some (.slice (some ⟨gv, 0, none⟩) (q.length + 1) cv) := (blk_cell HG5.out 0).trans rfl; have hzg5 : w5.frozen? ⟨gv, q.length * 5 + 1, none⟩ = false := blk_frozen HGV5.out _; have hx5 : w5.cell? ⟨gv, q.length * 5 + 1, none⟩ = some (.slice A1 p.f1.length c1) := (cell_grown hx2 HGV2.out hg (fun h => (HI2.out gv (hgne gv h.symm)).1.2 rfl)); have HS5 := Aside0.mk (last_back (M := M) (by rfl) HH2.out hM2 HR22.out HR32.out HR42.out hgne (fun k hk => (HI2.out k hk).2) ho hg hat); obtain ⟨A5, n5, c5, rfl⟩ : ∃ A n c, v5 = .slice A n c := (by obtain ⟨A5, c5, h5⟩ := Kd.R_slice ho; exact ⟨A5, _, c5, h5⟩); have HMV := Aside0.mk ((Kd.S_R HS2.out).1 gv rfl); have HBV := Aside0.mk (Kd.S_base HS2.out gv rfl); refine hK.out _ _ ⟨hcg5, hx5⟩ (fun hHeld => ?_); clear hK K; refine norm_ (a' := ?_) ?_ ?_
    rotate_left
    ·show Act.put _ (some 55) _ = _
     simp only [Act.put, List.setIfInBounds_toArray, List.set_cons_zero, List.set_cons_succ, i64_w, i32_w]
     rfl
    refine pure_ (i := 15) (N := some 56) (v := ?_) (a' := ?_) #[t_, t_, t_, t_, t_, t_, t_, t_, t_, t_, t_, t_, t_, t_, t_, t_, f_, f_] rfl rfl (by kernel_rfl) (fun _ _ _ h => h) (Or.inl ⟨by rfl, ?_⟩) ?_ ?_
    rotate_left
    ·intro w'; go_simp
     with_reducible rfl
    rotate_left
    ·simp only [Act.put, List.setIfInBounds_toArray, List.set_cons_zero, List.set_cons_succ, i64_w, i32_w]
     rfl
    refine pure_ (i := 16) (N := some 57) (v := ?_) (a' := ?_) #[t_, t_, t_, t_, t_, t_, t_, t_, t_, t_, t_, t_, t_, t_, t_, t_, t_, f_] rfl rfl (by kernel_rfl) (fun _ _ _ h => h) (Or.inl ⟨by rfl, ?_⟩) ?_ ?_
    rotate_left
    ·intro w'; go_simp
     with_reducible rfl
    rotate_left
    ·simp only [Act.put, List.setIfInBounds_toArray, List.set_cons_zero, List.set_cons_succ, i64_w, i32_w]
     rfl
    refine last_ (i := 17) (N := none) #[t_, t_, t_, t_, t_, t_, t_, t_, t_, t_, t_, t_, t_, t_, t_, t_, t_, t_] rfl rfl (by kernel_rfl) (by decide) (fun K hK => ?_); refine skip_ (w1 := ?_) (by rfl) rfl ?_ ?_
    rotate_left
    ·go_simp
     rfl
    refine hK.out _ _ ?_; clear hK K; refine done_ (by kernel_rfl) ?_; go_wp2; go_end0; exact ⟨rfl, ⟨_, blk_far HG5.out (by show g ≠ gv; have := HX.out.1; have := HMV.out; omega) _, by rw [HE.out]; exact HS5.out⟩, below_set hb HBV.out, HK5.out.setCell (.inl (.inl HMV.out)) _⟩
end Go.Proofs.Ytfpdkeolecmepaa.Q
end
section
namespace Go.Proofs.Ytfpdkeolecmepaa.Q
open Go.RowKit Go.Proofs.YtfpdkeolecmepaaW.PrintWords Go.Proofs.YtfpdkeolecmepaaW.PrintLast Go.Proofs.YtfpdkeolecmepaaW.PrintMore
attribute [local go_sem] max2_int min2_int max_two min_two max_three min_three max_four min_four   -- for this text's walks alone
set_option linter.unusedVariables false
set_option linter.unusedSimpArgs false
mutual
def impl_lcs.l0 : Nat → List ByteArray → List Int → List ByteArray → Int → Int → Option (Int)
 | 0, _, _, _, _, _ => none
 | k + 1, x1, x5, x16, x17, x18 => if x18 < x17 then (if 0 ≤ x18 then (if x18 < (x16.length : Int) then (impl_lcs.l1 k x1 x5 (rdOf ByteArray.empty x16 x18) 0 x16 x17 x18 x1 (x1.length : Int) 0) else (none)) else (none)) else (if 0 ≤ (x1.length : Int) then (if (x1.length : Int) < (x5.length : Int) then (some (rd x5 (x1.length : Int))) else (none)) else (none))
def impl_lcs.l1 : Nat → List ByteArray → List Int → ByteArray → Int → List ByteArray → Int → Int → List ByteArray → Int → Int → Option (Int)
 | 0, _, _, _, _, _, _, _, _, _, _ => none
 | k + 1, x1, x5, x7, x8, x16, x17, x18, x22, x23, x24 => if x24 < x23 then (if 0 ≤ x24 then (if x24 < (x22.length : Int) then (if 0 ≤ (wrap64 (x24 + 1)) then (if (wrap64 (x24 + 1)) < (x5.length : Int) then (if x7.toList = (rdOf ByteArray.empty x22 x24).toList then (impl_lcs.l1 k x1 (x5.set ((wrap64 (x24 + 1)) : Int).toNat (wrap64 (x8 + 1))) x7 (rd x5 (wrap64 (x24 + 1))) x16 x17 x18 x22 x23 (wrap64 (x24 + 1))) else (if x24 < (x5.length : Int) then (impl_lcs.l1 k x1 (x5.set ((wrap64 (x24 + 1)) : Int).toNat (mx (rd x5 (wrap64 (x24 + 1))) (rd x5 x24))) x7 (rd x5 (wrap64 (x24 + 1))) x16 x17 x18 x22 x23 (wrap64 (x24 + 1))) else (none))) else (none)) else (none)) else (none)) else (none)) else (impl_lcs.l0 k x1 x5 x16 x17 (wrap64 (x18 + 1)))
end
def impl_lcs.f (k : Nat) (l0 : List ByteArray) (l1 : List ByteArray) : Option (Int) := if 0 ≤ (wrap64 ((l1.length : Int) + 1)) then (if (wrap64 ((l1.length : Int) + 1) : Int).toNat ≤ 35184372088832 then (impl_lcs.l0 k l1 (List.replicate (wrap64 ((l1.length : Int) + 1) : Int).toNat 0) l0 (l0.length : Int) 0) else (none)) else (none)
def impl_lcs.T12 : Bool × List (List Nat × List Nat) := (true, [([], []), ([], []), ([1], [1]), ([], []), ([], []), ([4], [4]), ([3, 5], [3, 5]), ([6], [6]), ([], []), ([], []), ([8, 9], [8, 9]), ([10], [10]), ([7, 11], [7, 11]), ([0, 2, 0, 1, 2, 3, 4, 5, 6, 7, 8, 9, 10, 11, 12], [0, 2]), ([13, 12, 0, 1, 2, 3, 4, 5, 6, 7, 8, 9, 10, 11, 12], [12, 13])])
def impl_lcs.B12 : List Nat := [0, 0, 2, 0, 0, 16, 56, 120, 0, 0, 768, 1792, 4088, 8191, 16383]
theorem impl_lcs.tab12 : rtab .any (opsOf Try.f78 12) = impl_lcs.T12 := by kernel_rfl
theorem impl_lcs.bits12 : waitsOk impl_lcs.T12.2 impl_lcs.B12 = true := by kernel_rfl
set_option maxHeartbeats 8000000 in
set_option maxRecDepth 100000 in
theorem impl_lcs.calls (k : Nat) (A0 : Option Addr) (c0 : Nat) (l0 : List ByteArray) (A1 : Option Addr) (c1 : Nat) (l1 : List ByteArray) (r : Int) (w : World) (hr0 : Kd.C Kd.string w A0 l0.length l0) (hc0 : l0.length ≤ c0) (hr1 : Kd.C Kd.string w A1 l1.length l1) (hc1 : l1.length ≤ c1) (h : impl_lcs.f k l0 l1 = some r) :
 Calls Try.prog 78 #[.slice A0 l0.length c0, .slice A1 l1.length c1] w fun e w' => e = .returned (.int .i64 r) ∧ Below w.heap.size w w' := by
 have HR0 := Aside0.mk hr0; have HC0 := Aside0.mk hc0; clear hr0 hc0; have HR1 := Aside0.mk hr1; have HC1 := Aside0.mk hc1; clear hr1 hc1; have HB := Aside0.mk (Below.refl w.heap.size w); have H : (if 0 ≤ (wrap64 ((l1.length : Int) + 1)) then (if (wrap64 ((l1.length : Int) + 1) : Int).toNat ≤ 35184372088832 then (impl_lcs.l0 k l1 (List.replicate (wrap64 ((l1.length : Int) + 1) : Int).toNat 0) l0 (l0.length : Int) 0) else (none)) else (none)) = some r := h; clear h; obtain ⟨ji3, hji3⟩ : ∃ j_ : Int, (wrap64 ((l1.length : Int) + 1)) = j_ := ⟨_, rfl⟩; (replace H : (if 0 ≤ (ji3) then (if (ji3 : Int).toNat ≤ 35184372088832 then (impl_lcs.l0 k l1 (List.replicate (ji3 : Int).toNat 0) l0 (l0.length : Int) 0) else (none)) else (none)) = some r := by first | (rw [hji3] at H; exact H) | (simp only [hji3] at H ⊢; exact H)); have hji3w : (IntKind.i64.wrap ((l1.length : Int) + 1)) = ji3 := (i64_w _).trans hji3; by_cases c4 : 0 ≤ (ji3)
 ·rw [if_pos c4] at H; have c4b0 := eq_true c4; have c4b1 : decide (0 ≤ (ji3)) = true := decide_eq_true c4; clear c4; by_cases c5 : (ji3 : Int).toNat ≤ 35184372088832
  ·rw [if_pos c5] at H; have c5b0 := eq_true c5; have c5b1 : decide ((ji3 : Int).toNat ≤ 35184372088832) = true := decide_eq_true c5; clear c5; obtain ⟨y235, hy235⟩ : ∃ y_ : List Int, y_ = (List.replicate (ji3 : Int).toNat 0) := ⟨_, rfl⟩; (replace H : (impl_lcs.l0 k l1 y235 l0 (l0.length : Int) 0) = some r := by first | (rw [hy235]; with_reducible exact H) | (have H2_ := (Option.bind_some _ _).symm.trans H; rw [hy235]; with_reducible exact H2_) | (have H2_ := (Option.bind_some _ _).symm.trans H; with_reducible exact H2_) | with_reducible exact H | (rw [hy235]; exact H) | exact H); have Ny235 := Aside0.mk hy235; clear hy235; have H' := Aside0.mk H; clear H; go_enter Try.func78, Try.ntmps78; go_wp2_with (first | ((with_reducible refine gate_dst (N := 15) rfl ?_); refine Kd.R_make (Kd.int .i64) _ 3 rfl (N := 15) rfl 80 _ _ rfl ji3 rfl rfl Try.underlying80 (.int .i64 0) 8 info3 rfl (by decide) (by omega) 0 (ok := fun _ => True) (okp := fun _ => True) rfl (fun _ hk => hk) trivial (of_decide_eq_true (by assumption)) (Nat.le_trans (Nat.mul_le_mul_right _ (of_decide_eq_true (by assumption) : ji3.toNat ≤ 35184372088832)) (by omega)) (Below.refl _ _) (Nat.le_refl _) ?_; intro v236 w6 ho7 hb hg_ hnew_; clear hg_ hnew_; (first | rw [← Ny235.out] at ho7 | (simp only [Int.reduceToNat] at ho7; rw [← Ny235.out] at ho7)); have n0_ := Aside0.mk (Kd.R_lower ho7 (below_size (by repeat (first | (with_reducible first | exact HB.out | apply below_alloc | apply pw_below_drewN | apply below_drew1) | exact HB.out)))); have n1_ := Aside0.mk (below_step (by repeat (first | (with_reducible first | exact HB.out | apply below_alloc | apply pw_below_drewN | apply below_drew1) | exact HB.out)) hb); clear HB; have HO237 := n0_; have HB := n1_; clear n0_ n1_; clear hb ho7)); go_loopg [18] k (fun kq v18 w' => ∃ (x5_1 : List Int) (x18_1 : Int), v18 = .int .i64 x18_1 ∧ Aside0 (impl_lcs.l0 kq l1 x5_1 l0 (l0.length : Int) x18_1 = some r) ∧ Aside0 (kq ≤ k) ∧ Aside0 (Kd.R (Kd.int .i64) 3 w' w.heap.size (fun _ => True) v236 x5_1) ∧ Aside0 (Below w.heap.size w w'))
   case atStart => exact ⟨(y235), (0), (by first | rfl | (simp; done) | (simp [*]; done)), H', ⟨Nat.le_refl _⟩, ⟨by (with_reducible repeat (first | apply Kd.R_alloc | apply Kd.R_drewN | apply Kd.R_drew)); exact HO237.out⟩, ⟨by repeat (first | (with_reducible first | exact HB.out | apply below_alloc | apply pw_below_drewN | apply below_drew1) | exact HB.out)⟩⟩
   case round =>
    clear H'; (try clear c1); (try clear p2); (try clear c4); (try clear c4b0); (try clear c4b1); (try clear c5); (try clear c5b0); (try clear c5b1); (try clear p6); (try clear c7); obtain ⟨x5_1, x18_1, rfl, HA, HK1, HO_5, HB⟩ := hrel
    cases gk with
    | zero => exact absurd HA.out (by simp [impl_lcs.l0])
    | succ k1 =>
     have H := HA.out; clear HA; simp only [impl_lcs.l0] at H; by_cases c8 : x18_1 < (l0.length : Int)
     ·rw [if_pos c8] at H; have c8b0 : decide (x18_1 < (l0.length : Int)) = true := decide_eq_true c8; clear c8; by_cases c9 : 0 ≤ x18_1
      ·rw [if_pos c9] at H; have c9b0 : decide (0 ≤ x18_1) = true := decide_eq_true c9; clear c9; by_cases c10 : x18_1 < (l0.length : Int)
       ·rw [if_pos c10] at H; have c10b0 : decide (x18_1 < (l0.length : Int)) = true := decide_eq_true c10; clear c10; have H' := Aside0.mk H; clear H; have p239 : 0 ≤ (x18_1 : Int) := of_decide_eq_true (by assumption); have q239 : x18_1 < (l0.length : Int) := of_decide_eq_true (by assumption); obtain ⟨ad239, e239, hx239_0⟩ := Kd.at_string HR0.out x18_1 p239 q239; cases e239; replace hx239_0 := (HB.out.cell (World.block_lt_of_cell? w _ hx239_0)).trans hx239_0; replace p239 := eq_true p239; replace q239 := eq_true q239; go_wp2; go_loopg [8, 24] k1 (fun kq v8 v24 w' => ∃ (x5_2 : List Int) (x8_2 : Int) (x24_2 : Int), v8 = .int .i64 x8_2 ∧ v24 = .int .i64 x24_2 ∧ Aside0 (impl_lcs.l1 kq l1 x5_2 (rdOf ByteArray.empty l0 x18_1) x8_2 l0 (l0.length : Int) x18_1 l1 (l1.length : Int) x24_2 = some r) ∧ Aside0 (kq ≤ k1) ∧ Aside0 (Kd.R (Kd.int .i64) 3 w' w.heap.size (fun _ => True) v236 x5_2) ∧ Aside0 (Below w.heap.size w w'))
        case atStart => exact ⟨(x5_1), (0), (0), (by first | rfl | (simp; done) | (simp [*]; done)), (by first | rfl | (simp; done) | (simp [*]; done)), H', ⟨Nat.le_refl _⟩, ⟨by (with_reducible repeat (first | apply Kd.R_alloc | apply Kd.R_drewN | apply Kd.R_drew)); exact HO_5.out⟩, ⟨by repeat (first | (with_reducible first | exact HB.out | apply below_alloc | apply pw_below_drewN | apply below_drew1) | exact HB.out)⟩⟩
        case round =>
         clear H'; (try clear c1); (try clear p2); (try clear q2); (try clear hx2); (try clear c4); (try clear c4b0); (try clear c4b1); (try clear c5); (try clear c5b0); (try clear c5b1); (try clear p6); (try clear c7); (try clear c8); (try clear c8b0); (try clear c9); (try clear c9b0); (try clear c10); (try clear c10b0); (try clear hx239_0); (try clear p2); (try clear p239); (try clear p6); (try clear q239); obtain ⟨x5_2, x8_2, x24_2, rfl, rfl, HA, HK2, HO_5, HB⟩ := hrel
         cases gk with
         | zero => exact absurd HA.out (by simp [impl_lcs.l1])
         | succ k2 =>
          have H := HA.out; clear HA; simp only [impl_lcs.l1] at H; by_cases c11 : x24_2 < (l1.length : Int)
          ·rw [if_pos c11] at H; have c11b0 : decide (x24_2 < (l1.length : Int)) = true := decide_eq_true c11; clear c11; by_cases c12 : 0 ≤ x24_2
           ·rw [if_pos c12] at H; have c12b0 : decide (0 ≤ x24_2) = true := decide_eq_true c12; clear c12; by_cases c13 : x24_2 < (l1.length : Int)
            ·rw [if_pos c13] at H; have c13b0 : decide (x24_2 < (l1.length : Int)) = true := decide_eq_true c13; clear c13; obtain ⟨ji14, hji14⟩ : ∃ j_ : Int, (wrap64 (x24_2 + 1)) = j_ := ⟨_, rfl⟩; (replace H : (if 0 ≤ (ji14) then (if (ji14) < (x5_2.length : Int) then (if (rdOf ByteArray.empty l0 x18_1).toList = (rdOf ByteArray.empty l1 x24_2).toList then (impl_lcs.l1 k2 l1 (x5_2.set ((ji14) : Int).toNat (wrap64 (x8_2 + 1))) (rdOf ByteArray.empty l0 x18_1) (rd x5_2 (ji14)) l0 (l0.length : Int) x18_1 l1 (l1.length : Int) ji14) else (if x24_2 < (x5_2.length : Int) then (impl_lcs.l1 k2 l1 (x5_2.set ((ji14) : Int).toNat (mx (rd x5_2 (ji14)) (rd x5_2 x24_2))) (rdOf ByteArray.empty l0 x18_1) (rd x5_2 (ji14)) l0 (l0.length : Int) x18_1 l1 (l1.length : Int) ji14) else (none))) else (none)) else (none)) = some r := by first | (rw [hji14] at H; exact H) | (simp only [hji14] at H ⊢; exact H)); have hji14w : (IntKind.i64.wrap (x24_2 + 1)) = ji14 := (i64_w _).trans hji14; by_cases c15 : 0 ≤ (ji14)
             ·rw [if_pos c15] at H; have c15b0 : decide (0 ≤ (ji14)) = true := decide_eq_true c15; clear c15; by_cases c16 : (ji14) < (x5_2.length : Int)
              ·rw [if_pos c16] at H; have c16b0 : decide ((ji14) < (x5_2.length : Int)) = true := decide_eq_true c16; clear c16; by_cases c17 : (rdOf ByteArray.empty l0 x18_1).toList = (rdOf ByteArray.empty l1 x24_2).toList
               ·rw [if_pos c17] at H; have c17b0 : ((rdOf ByteArray.empty l0 x18_1).toList == (rdOf ByteArray.empty l1 x24_2).toList) = true := beq_iff_eq.mpr c17; have c17b1 : ((rdOf ByteArray.empty l0 x18_1).toList != (rdOf ByteArray.empty l1 x24_2).toList) = false := bne_eq_false_iff_eq.mpr c17; clear c17; obtain ⟨y242, hy242⟩ : ∃ y_ : List Int, y_ = (x5_2.set ((ji14) : Int).toNat (wrap64 (x8_2 + 1))) := ⟨_, rfl⟩; (replace H : (impl_lcs.l1 k2 l1 y242 (rdOf ByteArray.empty l0 x18_1) (rd x5_2 (ji14)) l0 (l0.length : Int) x18_1 l1 (l1.length : Int) ji14) = some r := by first | (rw [hy242]; with_reducible exact H) | (have H2_ := (Option.bind_some _ _).symm.trans H; rw [hy242]; with_reducible exact H2_) | (have H2_ := (Option.bind_some _ _).symm.trans H; with_reducible exact H2_) | with_reducible exact H | (rw [hy242]; exact H) | exact H); have Ny242 := Aside0.mk hy242; clear hy242; have H' := Aside0.mk H; clear H; have p240 : 0 ≤ (x24_2 : Int) := of_decide_eq_true (by assumption); have q240 : x24_2 < (l1.length : Int) := of_decide_eq_true (by assumption); obtain ⟨ad240, e240, hx240_0⟩ := Kd.at_string HR1.out x24_2 p240 q240; cases e240; replace hx240_0 := (HB.out.cell (World.block_lt_of_cell? w _ hx240_0)).trans hx240_0; replace p240 := eq_true p240; replace q240 := eq_true q240; obtain ⟨Ao19, co19, eo19⟩ := Kd.R_slice HO_5.out; subst eo19; have p241 : 0 ≤ ((ji14) : Int) := of_decide_eq_true (by assumption); have q241 : (ji14) < (x5_2.length : Int) := of_decide_eq_true (by assumption); obtain ⟨ad241, e241, hx241_0⟩ := Kd.at_int (Kd.R_reads' HO_5.out).2.2 (ji14) p241 q241; cases e241; replace p241 := eq_true p241; replace q241 := eq_true q241; have p18 : 0 ≤ ((ji14) : Int) := of_decide_eq_true (by assumption); have q18 : ((ji14) : Int) < ((x5_2.length : Int) : Int) := of_decide_eq_true (by assumption); obtain ⟨go18, co18, eo18, gb18, gl18, cl18, HG18⟩ := Kd.R_form HO_5.out (by omega)
                (first | cases eo18 | (injection eo18 with ea_ en_ ec_; (first | subst ea_ | (injection ea_ with ea_; subst ea_)); subst ec_; clear en_))
                have GB18 := Aside0.mk gb18; have GG18 := Aside0.mk HG18; clear gb18 gl18 HG18
                (first | simp only [add_plain] at hx241_0 | skip)
                obtain ⟨hx18_0, hf18_0⟩ := Kd.R_celln 0 HO_5.out ((ji14) : Int) p18 q18; replace p18 := eq_true p18; replace q18 := eq_true q18; have HP20 := Kd.R_putg HO_5.out ((ji14) : Int) (wrap64 (x8_2 + 1)); go_wp2_with (first | ((with_reducible refine gate_store (t := 3) (p := 42) rfl ?_); refine store_event (t := 3) (p := 42) (v := ?vo_w21) (w1 := (wr.setCell ⟨go18, ((ji14) : Int).toNat, none⟩ (.int .i64 (wrap64 (x8_2 + 1))))) ?hg ?ho ?hn ?hr ?_; (case ho => rfl); (case hg => rfl); (case hn => rfl); (case hr => first | (go_simp; done) | (go_simp; rfl)); intro w21 hw; have hg : wr.grownBy w21 (some go18) := (by rw [hw]; exact HP20.2); have hp_ : Kd.R (Kd.int .i64) 3 w21 w.heap.size (fun _ => True) (.slice (some ⟨go18, 0, none⟩) x5_2.length co19) y242 := (by rw [hw, Ny242.out]; exact HP20.1); clear HP20; have n0_ := Aside0.mk (hp_); have n1_ := Aside0.mk ((by rw [hw]; exact below_set (HB.out) GB18.out : Below w.heap.size w w21)); clear HO_5; clear HB; have HO_5 := n0_; have HB := n1_; clear n0_ n1_; clear hg hw hp_)); go_roundg k2
                case measure => have := HK1.out; have := HK2.out; omega
                case rel => exact ⟨(y242), (rd x5_2 (ji14)), (ji14), (by first | rfl | (simp; done) | (simp only [← hji14] <;> (first | rfl | simp)) | (simp [*]; done)), (by first | rfl | (simp; done) | (simp only [← hji14] <;> (first | rfl | simp)) | (simp [*]; done)), H', ⟨by have := HK1.out; have := HK2.out; omega⟩, ⟨by (with_reducible repeat (first | apply Kd.R_alloc | apply Kd.R_drewN | apply Kd.R_drew)); exact HO_5.out⟩, ⟨by repeat (first | (with_reducible first | exact HB.out | apply below_alloc | apply pw_below_drewN | apply below_drew1) | exact HB.out)⟩⟩
               ·rw [if_neg c17] at H; have c17b0 : ((rdOf ByteArray.empty l0 x18_1).toList == (rdOf ByteArray.empty l1 x24_2).toList) = false := beq_eq_false_iff_ne.mpr c17; have c17b1 : ((rdOf ByteArray.empty l0 x18_1).toList != (rdOf ByteArray.empty l1 x24_2).toList) = true := bne_iff_ne.mpr c17; by_cases c22 : x24_2 < (x5_2.length : Int)
                ·rw [if_pos c22] at H; have c22b0 : decide (x24_2 < (x5_2.length : Int)) = true := decide_eq_true c22; clear c22; obtain ⟨ji23, hji23⟩ : ∃ j_ : Int, (mx (rd x5_2 (ji14)) (rd x5_2 x24_2)) = j_ := ⟨_, rfl⟩; (replace H : (impl_lcs.l1 k2 l1 (x5_2.set ((ji14) : Int).toNat (ji23)) (rdOf ByteArray.empty l0 x18_1) (rd x5_2 (ji14)) l0 (l0.length : Int) x18_1 l1 (l1.length : Int) ji14) = some r := by first | (rw [hji23] at H; exact H) | (simp only [hji23] at H ⊢; exact H)); have hji23_ : (if (rd x5_2 (ji14)) < (rd x5_2 x24_2) then (rd x5_2 x24_2) else (rd x5_2 (ji14))) = ji23 := hji23; obtain ⟨y245, hy245⟩ : ∃ y_ : List Int, y_ = (x5_2.set ((ji14) : Int).toNat (ji23)) := ⟨_, rfl⟩; (replace H : (impl_lcs.l1 k2 l1 y245 (rdOf ByteArray.empty l0 x18_1) (rd x5_2 (ji14)) l0 (l0.length : Int) x18_1 l1 (l1.length : Int) ji14) = some r := by first | (rw [hy245]; with_reducible exact H) | (have H2_ := (Option.bind_some _ _).symm.trans H; rw [hy245]; with_reducible exact H2_) | (have H2_ := (Option.bind_some _ _).symm.trans H; with_reducible exact H2_) | with_reducible exact H | (rw [hy245]; exact H) | exact H); have Ny245 := Aside0.mk hy245; clear hy245; have H' := Aside0.mk H; clear H; have p240 : 0 ≤ (x24_2 : Int) := of_decide_eq_true (by assumption); have q240 : x24_2 < (l1.length : Int) := of_decide_eq_true (by assumption); obtain ⟨ad240, e240, hx240_0⟩ := Kd.at_string HR1.out x24_2 p240 q240; cases e240; replace hx240_0 := (HB.out.cell (World.block_lt_of_cell? w _ hx240_0)).trans hx240_0; replace p240 := eq_true p240; replace q240 := eq_true q240; obtain ⟨Ao25, co25, eo25⟩ := Kd.R_slice HO_5.out; subst eo25; have p241 : 0 ≤ ((ji14) : Int) := of_decide_eq_true (by assumption); have q241 : (ji14) < (x5_2.length : Int) := of_decide_eq_true (by assumption); obtain ⟨ad241, e241, hx241_0⟩ := Kd.at_int (Kd.R_reads' HO_5.out).2.2 (ji14) p241 q241; cases e241; replace p241 := eq_true p241; replace q241 := eq_true q241; (try go_wp2); have n0_ := Aside0.mk (Kd.R_drew HO_5.out); have n1_ := Aside0.mk (below_drew1 HB.out); clear HO_5; clear HB; have HO_5 := n0_; have HB := n1_; clear n0_ n1_; have p243 : 0 ≤ ((ji14) : Int) := of_decide_eq_true (by assumption); have q243 : (ji14) < (x5_2.length : Int) := of_decide_eq_true (by assumption); obtain ⟨ad243, e243, hx243_0⟩ := Kd.at_int (Kd.R_reads' HO_5.out).2.2 (ji14) p243 q243; obtain rfl : ad241 = ad243 := (by injection e243); replace p243 := eq_true p243; replace q243 := eq_true q243; have p244 : 0 ≤ (x24_2 : Int) := of_decide_eq_true (by assumption); have q244 : x24_2 < (x5_2.length : Int) := of_decide_eq_true (by assumption); obtain ⟨ad244, e244, hx244_0⟩ := Kd.at_int (Kd.R_reads' HO_5.out).2.2 x24_2 p244 q244; obtain rfl : ad241 = ad244 := (by injection e244); replace p244 := eq_true p244; replace q244 := eq_true q244; have p24 : 0 ≤ ((ji14) : Int) := of_decide_eq_true (by assumption); have q24 : ((ji14) : Int) < ((x5_2.length : Int) : Int) := of_decide_eq_true (by assumption); obtain ⟨go24, co24, eo24, gb24, gl24, cl24, HG24⟩ := Kd.R_form HO_5.out (by omega)
                 (first | cases eo24 | (injection eo24 with ea_ en_ ec_; (first | subst ea_ | (injection ea_ with ea_; subst ea_)); subst ec_; clear en_))
                 have GB24 := Aside0.mk gb24; have GG24 := Aside0.mk HG24; clear gb24 gl24 HG24
                 (first | simp only [add_plain] at hx241_0 | skip)
                 (first | simp only [add_plain] at hx243_0 | skip)
                 (first | simp only [add_plain] at hx244_0 | skip)
                 obtain ⟨hx24_0, hf24_0⟩ := Kd.R_celln 0 HO_5.out ((ji14) : Int) p24 q24; replace p24 := eq_true p24; replace q24 := eq_true q24; have HP27 := Kd.R_putn HO_5.out ((ji14) : Int) ji23; rw [← Ny245.out] at HP27; have HQ27 := Aside0.mk HP27; clear HP27; refine start_ (n := 15) (S := fun w' => w'.cell? ⟨go24, ((ji14)).toNat, none⟩ = some (.int .i64 (rd x5_2 (ji14))) ∧ w'.cell? ⟨go24, (x24_2).toNat, none⟩ = some (.int .i64 (rd x5_2 x24_2))) (ds := [14]) #[f_, f_, f_, f_, f_, f_, f_, f_, f_, f_, f_, f_, f_, f_, f_] (by kernel_rfl) rfl rfl ⟨hx243_0, hx244_0⟩ (fun hHeld => ?_); refine with_tabW impl_lcs.tab12 impl_lcs.bits12 (fun HT_ HW_ => ?_); generalize wr.drew = w26 at HO_5 HB GG24 HQ27 hf24_0 hx241_0 hx243_0 hx244_0 hx24_0 hHeld ⊢; refine pure_ (i := 0) (N := some 43) (v := ?_) (a' := ?_) #[t_, f_, f_, f_, f_, f_, f_, f_, f_, f_, f_, f_, f_, f_, f_] rfl rfl (any_of HT_.out (by kernel_rfl)) (fun _ _ _ h => h) (Or.inl ⟨by rfl, ?_⟩) ?_ ?_
                 rotate_left
                 ·intro w'; go_simp
                  with_reducible rfl
                 rotate_left
                 ·simp only [Act.put, List.setIfInBounds_toArray, List.set_cons_zero, List.set_cons_succ, i64_w, i32_w]
                  rfl
                 refine pure_ (i := 1) (N := some 44) (v := ?_) (a' := ?_) #[t_, t_, f_, f_, f_, f_, f_, f_, f_, f_, f_, f_, f_, f_, f_] rfl rfl (any_of HT_.out (by kernel_rfl)) (fun _ _ _ h => h) (Or.inl ⟨by rfl, ?_⟩) ?_ ?_
                 rotate_left
                 ·intro w'; go_simp
                  with_reducible rfl
                 rotate_left
                 ·simp only [Act.put, List.setIfInBounds_toArray, List.set_cons_zero, List.set_cons_succ, i64_w, i32_w]
                  rfl
                 refine pure_ (i := 2) (N := some 45) (v := ?_) (a' := ?_) #[t_, t_, t_, f_, f_, f_, f_, f_, f_, f_, f_, f_, f_, f_, f_] rfl rfl (any_of HT_.out (by kernel_rfl)) (fun _ _ _ h => h) (Or.inl ⟨by rfl, ?_⟩) ?_ ?_
                 rotate_left
                 ·intro w'; go_simp
                  with_reducible rfl
                 rotate_left
                 ·simp only [Act.put, List.setIfInBounds_toArray, List.set_cons_zero, List.set_cons_succ, i64_w, i32_w]
                  rfl
                 refine pure_ (i := 3) (N := some 46) (v := ?_) (a' := ?_) #[t_, t_, t_, t_, f_, f_, f_, f_, f_, f_, f_, f_, f_, f_, f_] rfl rfl (any_of HT_.out (by kernel_rfl)) (fun _ _ _ h => h) (Or.inl ⟨by rfl, ?_⟩) ?_ ?_
                 rotate_left
                 ·intro w'; go_simp
                  with_reducible rfl
                 rotate_left
                 ·simp only [Act.put, List.setIfInBounds_toArray, List.set_cons_zero, List.set_cons_succ, i64_w, i32_w]
                  rfl
                 refine pure_ (i := 4) (N := some 47) (v := ?_) (a' := ?_) #[t_, t_, t_, t_, t_, f_, f_, f_, f_, f_, f_, f_, f_, f_, f_] rfl rfl (any_of HT_.out (by kernel_rfl)) (fun _ _ _ h => h) (Or.inl ⟨by rfl, ?_⟩) ?_ ?_
                 rotate_left
                 ·intro w'; go_simp
                  with_reducible rfl
                 rotate_left
                 ·simp only [Act.put, List.setIfInBounds_toArray, List.set_cons_zero, List.set_cons_succ, i64_w, i32_w]
                  rfl
                 refine pure_ (i := 5) (N := some 48) (v := ?_) (a' := ?_) #[t_, t_, t_, t_, t_, t_, f_, f_, f_, f_, f_, f_, f_, f_, f_] rfl rfl (any_of HT_.out (by kernel_rfl)) (fun _ _ _ h => h) (Or.inl ⟨by rfl, ?_⟩) ?_ ?_
                 rotate_left
                 ·intro w'; go_simp
                  with_reducible rfl
                 rotate_left
                 ·simp only [Act.put, List.setIfInBounds_toArray, List.set_cons_zero, List.set_cons_succ, i64_w, i32_w]
                  rfl
                 refine pure_ (i := 6) (N := some 49) (v := ?_) (a' := ?_) #[t_, t_, t_, t_, t_, t_, t_, f_, f_, f_, f_, f_, f_, f_, f_] rfl rfl (any_of HT_.out (by kernel_rfl)) (fun _ _ _ h => h) (Or.inl ⟨by rfl, ?_⟩) ?_ ?_
                 rotate_left
                 ·intro w'; go_simp
                  with_reducible rfl
                 rotate_left
                 ·simp only [Act.put, List.setIfInBounds_toArray, List.set_cons_zero, List.set_cons_succ, i64_w, i32_w]
                  rfl
                 refine pure_ (i := 8) (N := some 51) (v := ?_) (a' := ?_) #[t_, t_, t_, t_, t_, t_, t_, f_, t_, f_, f_, f_, f_, f_, f_] rfl rfl (any_of HT_.out (by kernel_rfl)) (fun _ _ _ h => h) (Or.inl ⟨by rfl, ?_⟩) ?_ ?_
                 rotate_left
                 ·intro w'; go_simp
                  with_reducible rfl
                 rotate_left
                 ·simp only [Act.put, List.setIfInBounds_toArray, List.set_cons_zero, List.set_cons_succ, i64_w, i32_w]
                  rfl
                 refine pure_ (i := 9) (N := some 52) (v := ?_) (a' := ?_) #[t_, t_, t_, t_, t_, t_, t_, f_, t_, t_, f_, f_, f_, f_, f_] rfl rfl (any_of HT_.out (by kernel_rfl)) (fun _ _ _ h => h) (Or.inl ⟨by rfl, ?_⟩) ?_ ?_
                 rotate_left
                 ·intro w'; go_simp
                  with_reducible rfl
                 rotate_left
                 ·simp only [Act.put, List.setIfInBounds_toArray, List.set_cons_zero, List.set_cons_succ, i64_w, i32_w]
                  rfl
                 refine pure_ (i := 10) (N := some 53) (v := ?_) (a' := ?_) #[t_, t_, t_, t_, t_, t_, t_, f_, t_, t_, t_, f_, f_, f_, f_] rfl rfl (any_of HT_.out (by kernel_rfl)) (fun _ _ _ h => h) (Or.inl ⟨by rfl, ?_⟩) ?_ ?_
                 rotate_left
                 ·intro w'; go_simp
                  with_reducible rfl
                 rotate_left
                 ·simp only [Act.put, List.setIfInBounds_toArray, List.set_cons_zero, List.set_cons_succ, i64_w, i32_w]
                  rfl
                 refine take_ (i := 7) (N := some 50) (v := ?_) (a' := ?_) #[t_, t_, t_, t_, t_, t_, t_, t_, t_, t_, t_, f_, f_, f_, f_] rfl rfl (take_ofW HT_.out HW_.out (by kernel_rfl)) (fun _ _ _ h => h) (Or.inl ⟨by rfl, ?_⟩) hHeld ?_ ?_
                 rotate_left
                 ·rintro w' ⟨s0, s1⟩; go_simp
                  with_reducible rfl
                 rotate_left
                 ·simp only [Act.put, List.setIfInBounds_toArray, List.set_cons_zero, List.set_cons_succ, i64_w, i32_w]
                  rfl
                 refine take_ (i := 11) (N := some 54) (v := ?_) (a' := ?_) #[t_, t_, t_, t_, t_, t_, t_, t_, t_, t_, t_, t_, f_, f_, f_] rfl rfl (take_ofW HT_.out HW_.out (by kernel_rfl)) (fun _ _ _ h => h) (Or.inl ⟨by rfl, ?_⟩) hHeld ?_ ?_
                 rotate_left
                 ·rintro w' ⟨s0, s1⟩; go_simp
                  with_reducible rfl
                 rotate_left
                 ·simp only [Act.put, List.setIfInBounds_toArray, List.set_cons_zero, List.set_cons_succ, i64_w, i32_w]
                  rfl
                 refine pure_ (i := 12) (N := some 55) (v := ?_) (a' := ?_) #[t_, t_, t_, t_, t_, t_, t_, t_, t_, t_, t_, t_, t_, f_, f_] rfl rfl (any_of HT_.out (by kernel_rfl)) (fun _ _ _ h => h) (Or.inl ⟨by rfl, ?_⟩) ?_ ?_
                 rotate_left
                 ·intro w'; go_simp
                  with_reducible rfl
                 rotate_left
                 ·simp only [Act.put, List.setIfInBounds_toArray, List.set_cons_zero, List.set_cons_succ, i64_w, i32_w]
                  rfl
                 refine pure_ (i := 13) (N := some 56) (v := ?_) (a' := ?_) #[t_, t_, t_, t_, t_, t_, t_, t_, t_, t_, t_, t_, t_, t_, f_] rfl rfl (any_of HT_.out (by kernel_rfl)) (fun _ _ _ h => h) (Or.inl ⟨by rfl, ?_⟩) ?_ ?_
                 rotate_left
                 ·intro w'; go_simp
                  with_reducible rfl
                 rotate_left
                 ·simp only [Act.put, List.setIfInBounds_toArray, List.set_cons_zero, List.set_cons_succ, i64_w, i32_w]
                  rfl
                 refine last_ (i := 14) (N := none) #[t_, t_, t_, t_, t_, t_, t_, t_, t_, t_, t_, t_, t_, t_, t_] rfl rfl (one_of HT_.out (by kernel_rfl)) (by decide) (fun K hK => ?_); refine skip_ (w1 := ?_) (by rfl) rfl ?_ ?_
                 rotate_left
                 ·go_simp
                  rfl
                 refine hK.out _ _ ?_; clear hK K; refine done_ (done_of HT_.out (by kernel_rfl)) ?_; (try go_wp2); go_roundg k2
                 case measure => have := HK1.out; have := HK2.out; omega
                 case rel => exact ⟨(y245), (rd x5_2 (ji14)), (ji14), (by first | rfl | (simp; done) | (simp only [← hji14] <;> (first | rfl | simp)) | (simp [*]; done)), (by first | rfl | (simp; done) | (simp only [← hji14] <;> (first | rfl | simp)) | (simp [*]; done)), H', ⟨by have := HK1.out; have := HK2.out; omega⟩, ⟨by (with_reducible repeat (first | apply Kd.R_alloc | apply Kd.R_drewN | apply Kd.R_drew)); exact HQ27.out⟩, ⟨by repeat (first | (with_reducible first | exact HB.out | apply below_alloc | apply pw_below_drewN | apply below_drew1 | refine below_set ?_ GB24.out) | exact HB.out)⟩⟩
                ·rw [if_neg c22] at H; exact absurd H (by simp)
              ·rw [if_neg c16] at H; exact absurd H (by simp)
             ·rw [if_neg c15] at H; exact absurd H (by simp)
            ·rw [if_neg c13] at H; exact absurd H (by simp)
           ·rw [if_neg c12] at H; exact absurd H (by simp)
          ·rw [if_neg c11] at H; have c11b0 : decide (x24_2 < (l1.length : Int)) = false := decide_eq_false c11; clear c11; have H' := Aside0.mk H; clear H; go_wp2; go_roundg k2
           case measure => have := HK1.out; have := HK2.out; omega
           case rel => exact ⟨(x5_2), (wrap64 (x18_1 + 1)), (by first | rfl | (simp; done) | (simp [*]; done)), H', ⟨by have := HK1.out; have := HK2.out; omega⟩, ⟨by (with_reducible repeat (first | apply Kd.R_alloc | apply Kd.R_drewN | apply Kd.R_drew)); exact HO_5.out⟩, ⟨by repeat (first | (with_reducible first | exact HB.out | apply below_alloc | apply pw_below_drewN | apply below_drew1) | exact HB.out)⟩⟩
       ·rw [if_neg c10] at H; exact absurd H (by simp)
      ·rw [if_neg c9] at H; exact absurd H (by simp)
     ·rw [if_neg c8] at H; have c8b0 : decide (x18_1 < (l0.length : Int)) = false := decide_eq_false c8; clear c8; by_cases c28 : 0 ≤ (l1.length : Int)
      ·rw [if_pos c28] at H; have c28b0 : decide (0 ≤ (l1.length : Int)) = true := decide_eq_true c28; have c28b1 : decide (0 ≤ l1.length) = true := decide_eq_true (by omega); clear c28; by_cases c29 : (l1.length : Int) < (x5_1.length : Int)
       ·rw [if_pos c29] at H; have c29b0 : decide ((l1.length : Int) < (x5_1.length : Int)) = true := decide_eq_true c29; have c29b1 : decide (l1.length < x5_1.length) = true := decide_eq_true (Int.ofNat_lt.mp c29); clear c29; obtain rfl := Option.some.inj H; obtain ⟨Ao30, co30, eo30⟩ := Kd.R_slice HO_5.out; subst eo30; have p238 : 0 ≤ ((l1.length : Int) : Int) := of_decide_eq_true (by assumption); have q238 : (l1.length : Int) < (x5_1.length : Int) := of_decide_eq_true (by assumption); obtain ⟨ad238, e238, hx238_0⟩ := Kd.at_int (Kd.R_reads' HO_5.out).2.2 (l1.length : Int) p238 q238; cases e238
        (try simp only [Go.IntWalk.toNatUp] at hx238_0)
        replace p238 := eq_true p238; replace q238 := eq_true q238; go_wp2; go_ret; exact ⟨by first | rfl | (simp [errW_none, errW_some] <;> rfl) | (simp only [← hji3]; first | rfl | (simp [errW_none, errW_some] <;> rfl)) | (simp [*, errW_none, errW_some] <;> rfl), by repeat (first | (with_reducible first | exact HB.out | apply below_alloc | apply pw_below_drewN | apply below_drew1) | exact HB.out)⟩
       ·rw [if_neg c29] at H; exact absurd H (by simp)
      ·rw [if_neg c28] at H; exact absurd H (by simp)
  ·rw [if_neg c5] at H; exact absurd H (by simp)
 ·rw [if_neg c4] at H; exact absurd H (by simp)
end Go.Proofs.Ytfpdkeolecmepaa.Q
end
section
namespace Go.Proofs.Ytfpdkeolecmepaa.Q
open Go.RowKit Go.Proofs.YtfpdkeolecmepaaW.PrintWords Go.Proofs.YtfpdkeolecmepaaW.PrintLast Go.Proofs.YtfpdkeolecmepaaW.PrintMore
attribute [local go_sem] max2_int min2_int max_two min_two max_three min_three max_four min_four   -- for this text's walks alone
set_option linter.unusedVariables false
set_option linter.unusedSimpArgs false
mutual
def impl_match.l0 : Nat → List ByteArray → List ByteArray → List Int → Int → Int → Option (List Int)
 | 0, _, _, _, _, _ => none
 | k + 1, x0, x1, x5, x6, x7 => if x7 < (x0.length : Int) then (if x6 < (x1.length : Int) then (if 0 ≤ x7 then (if 0 ≤ x6 then (impl_match.j1 k x0 x1 x5 x6 x7 ((rdOf ByteArray.empty x0 x7).toList == (rdOf ByteArray.empty x1 x6).toList)) else (none)) else (none)) else (impl_match.j1 k x0 x1 x5 x6 x7 false)) else (some x5)
def impl_match.j1 : Nat → List ByteArray → List ByteArray → List Int → Int → Int → Bool → Option (List Int)
 | 0, _, _, _, _, _, _ => none
 | k + 1, x0, x1, x5, x6, x7, x15 => if x15 = true then (if x5.length < 17592186044416 then (impl_match.l0 k x0 x1 (x5 ++ [x6]) (wrap64 (x6 + 1)) (wrap64 (x7 + 1))) else (none)) else (if x6 = (x1.length : Int) then (if x5.length < 17592186044416 then (impl_match.l0 k x0 x1 (x5 ++ [(-1)]) x6 (wrap64 (x7 + 1))) else (none)) else (if 0 ≤ (wrap64 (x7 + 1)) then (if (wrap64 (x7 + 1)) ≤ (x0.length : Int) then (if 0 ≤ x6 then (if x6 ≤ (x1.length : Int) then ((impl_lcs.f k (x0.drop ((wrap64 (x7 + 1)) : Int).toNat) (x1.drop (x6 : Int).toNat)).bind fun t259 => (if 0 ≤ x7 then (if x7 ≤ (x0.length : Int) then (if 0 ≤ (wrap64 (x6 + 1)) then (if (wrap64 (x6 + 1)) ≤ (x1.length : Int) then ((impl_lcs.f k (x0.drop (x7 : Int).toNat) (x1.drop ((wrap64 (x6 + 1)) : Int).toNat)).bind fun t262 => (if t259 ≥ t262 then (if x5.length < 17592186044416 then (impl_match.l0 k x0 x1 (x5 ++ [(-1)]) x6 (wrap64 (x7 + 1))) else (none)) else (impl_match.l0 k x0 x1 x5 (wrap64 (x6 + 1)) x7))) else (none)) else (none)) else (none)) else (none))) else (none)) else (none)) else (none)) else (none)))
end
def impl_match.f (k : Nat) (l0 : List ByteArray) (l1 : List ByteArray) : Option (List Int) := impl_match.l0 k l0 l1 (([] : List Int)) 0 0
def impl_match.T5 : Bool × List (List Nat × List Nat) := (true, [([], []), ([], []), ([1], [1]), ([0, 2], [0, 2]), ([3], [3]), ([4], [4]), ([4], [4]), ([5, 6, 4], [4, 5, 6]), ([7, 4], [4, 7]), ([4], [4]), ([4], [4]), ([9, 10, 4], [4, 9, 10]), ([11, 4], [4, 11]), ([8, 12, 4], [4, 8, 12]), ([4, 13], [4, 13]), ([14, 4], [14])])
def impl_match.B5 : List Nat := [0, 0, 2, 7, 15, 31, 31, 127, 255, 31, 31, 1567, 3615, 8191, 16383, 32767]
theorem impl_match.tab5 : rtab .any (opsOf Try.f79 5) = impl_match.T5 := by kernel_rfl
theorem impl_match.bits5 : waitsOk impl_match.T5.2 impl_match.B5 = true := by kernel_rfl
def impl_match.T8 : Bool × List (List Nat × List Nat) := (true, [([], []), ([], []), ([1], [1]), ([0, 2], [0, 2]), ([3], [3]), ([4], [4]), ([4], [4]), ([6, 4], [4, 6]), ([5, 7, 4], [4, 5, 7]), ([4], [4]), ([4], [4]), ([9, 10, 4], [4, 9, 10]), ([8, 11, 4, 4], [4, 8, 11]), ([4], [4]), ([4], [4]), ([13, 14, 4], [4, 13, 14]), ([4], [4]), ([4], [4]), ([17, 4], [4, 17]), ([16, 18, 4], [4, 16, 18]), ([15, 19, 12, 4], [4, 15, 19]), ([12, 20, 4], [4, 12, 20]), ([4, 21], [4, 21]), ([22, 20], [22])])
def impl_match.B8 : List Nat := [0, 0, 2, 7, 15, 31, 31, 95, 255, 31, 31, 1567, 4095, 31, 31, 24607, 31, 31, 131103, 458783, 1048575, 2097151, 4194303, 8388607]
theorem impl_match.tab8 : rtab .any (opsOf Try.f79 8) = impl_match.T8 := by kernel_rfl
theorem impl_match.bits8 : waitsOk impl_match.T8.2 impl_match.B8 = true := by kernel_rfl
set_option maxHeartbeats 8000000 in
set_option maxRecDepth 100000 in
theorem impl_match.calls (k : Nat) (A0 : Option Addr) (c0 : Nat) (l0 : List ByteArray) (A1 : Option Addr) (c1 : Nat) (l1 : List ByteArray) (r : List Int) (w : World) (hr0 : Kd.C Kd.string w A0 l0.length l0) (hc0 : l0.length ≤ c0) (hr1 : Kd.C Kd.string w A1 l1.length l1) (hc1 : l1.length ≤ c1) (h : impl_match.f k l0 l1 = some r) :
 Calls Try.prog 79 #[.slice A0 l0.length c0, .slice A1 l1.length c1] w fun e w' => ∃ v0_ : Value, e = .returned (v0_) ∧ Kd.R (Kd.int .i64) 3 w' w.heap.size (fun _ => True) v0_ r ∧ Below w.heap.size w w' := by
 have HR0 := Aside0.mk hr0; have HC0 := Aside0.mk hc0; clear hr0 hc0; have HR1 := Aside0.mk hr1; have HC1 := Aside0.mk hc1; clear hr1 hc1; have HB := Aside0.mk (Below.refl w.heap.size w); have H : (impl_match.l0 k l0 l1 (([] : List Int)) 0 0) = some r := h; clear h; obtain ⟨y246, hy246⟩ : ∃ y_ : List Int, y_ = (([] : List Int)) := ⟨_, rfl⟩; (replace H : (impl_match.l0 k l0 l1 y246 0 0) = some r := by first | (rw [hy246]; with_reducible exact H) | (have H2_ := (Option.bind_some _ _).symm.trans H; rw [hy246]; with_reducible exact H2_) | (have H2_ := (Option.bind_some _ _).symm.trans H; with_reducible exact H2_) | with_reducible exact H | (rw [hy246]; exact H) | exact H); have Ny246 := Aside0.mk hy246; clear hy246; have H' := Aside0.mk H; clear H; go_enter Try.func79, Try.ntmps79; go_wp2_with (first | ((with_reducible refine gate_dst (N := 8) rfl ?_); refine Kd.R_lit (Kd.int .i64) _ 3 ?hg (N := 8) ?hd (xs := ([] : List Int)) (inner := []) (ok := fun _ => True) (okp := fun _ => True) ?hr ?hp (fun _ hk => hk) trivial (Below.refl _ _) (Nat.le_refl _) (by simp) ?_; (case hd => rfl); (case hg => rfl); (case hr => first | (go_simp; done) | (go_simp; rfl)); (case hp => exact (Reps.none _ _)); intro v247 w3 ho4 hb hg_ hnew_; clear hg_ hnew_; (first | rw [← Ny246.out] at ho4 | (simp only [Int.reduceToNat] at ho4; rw [← Ny246.out] at ho4)); have n0_ := Aside0.mk (Kd.R_lower ho4 (below_size (by repeat (first | (with_reducible first | exact HB.out | apply below_alloc | apply pw_below_drewN | apply below_drew1) | exact HB.out)))); have n1_ := Aside0.mk (below_step (by repeat (first | (with_reducible first | exact HB.out | apply below_alloc | apply pw_below_drewN | apply below_drew1) | exact HB.out)) hb); clear HB; have HO248 := n0_; have HB := n1_; clear n0_ n1_; clear hb ho4)); go_loopg [5, 6, 7] k (fun kq v5 v6 v7 w' => ∃ (x5_1 : List Int) (x6_1 : Int) (x7_1 : Int), v6 = .int .i64 x6_1 ∧ v7 = .int .i64 x7_1 ∧ Aside0 (impl_match.l0 kq l0 l1 x5_1 x6_1 x7_1 = some r) ∧ Aside0 (kq ≤ k) ∧ Aside0 (Kd.R (Kd.int .i64) 3 w' w.heap.size (fun _ => True) v5 x5_1) ∧ Aside0 (Below w.heap.size w w'))
 case atStart => exact ⟨(y246), (0), (0), (by first | rfl | (simp; done) | (simp [*]; done)), (by first | rfl | (simp; done) | (simp [*]; done)), H', ⟨Nat.le_refl _⟩, ⟨by (with_reducible repeat (first | apply Kd.R_alloc | apply Kd.R_drewN | apply Kd.R_drew)); exact HO248.out⟩, ⟨by repeat (first | (with_reducible first | exact HB.out | apply below_alloc | apply pw_below_drewN | apply below_drew1) | exact HB.out)⟩⟩
 case round =>
  clear H'; (try clear c1); (try clear p2); obtain ⟨x5_1, x6_1, x7_1, rfl, rfl, HA, HK1, HO_5, HB⟩ := hrel
  cases gk with
  | zero => exact absurd HA.out (by simp [impl_match.l0])
  | succ k1 =>
   have H := HA.out; clear HA; simp only [impl_match.l0] at H; by_cases c5 : x7_1 < (l0.length : Int)
   ·rw [if_pos c5] at H; have c5b0 : decide (x7_1 < (l0.length : Int)) = true := decide_eq_true c5; clear c5; have HC6 := Aside0.mk H; clear H; (go_upto_region 5 with (fail)); go_cut [15] (fun v15 wc => ∃ (kq : Nat) (x15_5 : Bool), v15 = .bool x15_5 ∧ Aside0 (impl_match.j1 kq l0 l1 x5_1 x6_1 x7_1 x15_5 = some r) ∧ Aside0 (kq ≤ k1) ∧ Aside0 (Kd.R (Kd.int .i64) 3 wc w.heap.size (fun _ => True) u5 x5_1) ∧ Aside0 (Below w.heap.size w wc))
    case first =>
     have H := HC6.out; clear HC6; by_cases c7 : x6_1 < (l1.length : Int)
     ·rw [if_pos c7] at H; have c7b0 : decide (x6_1 < (l1.length : Int)) = true := decide_eq_true c7; clear c7
      (first | rw [c7b0] | (simp only [i64_w, i32_w]; rw [c7b0]) | skip)
      by_cases c8 : 0 ≤ x7_1
      ·rw [if_pos c8] at H; have c8b0 : decide (0 ≤ x7_1) = true := decide_eq_true c8; clear c8; by_cases c9 : 0 ≤ x6_1
       ·rw [if_pos c9] at H; have c9b0 : decide (0 ≤ x6_1) = true := decide_eq_true c9; clear c9; have H' := Aside0.mk H; clear H; (try go_wp2); have n0_ := Aside0.mk (Kd.R_drew HO_5.out); have n1_ := Aside0.mk (below_drew1 HB.out); clear HO_5; clear HB; have HO_5 := n0_; have HB := n1_; clear n0_ n1_; have p249 : 0 ≤ (x7_1 : Int) := of_decide_eq_true (by assumption); have q249 : x7_1 < (l0.length : Int) := of_decide_eq_true (by assumption); obtain ⟨ad249, e249, hx249_0⟩ := Kd.at_string HR0.out x7_1 p249 q249; have hw249_0 := hx249_0; cases e249; replace hx249_0 := (HB.out.cell (World.block_lt_of_cell? w _ hx249_0)).trans hx249_0; replace p249 := eq_true p249; replace q249 := eq_true q249; have p250 : 0 ≤ (x6_1 : Int) := of_decide_eq_true (by assumption); have q250 : x6_1 < (l1.length : Int) := of_decide_eq_true (by assumption); obtain ⟨ad250, e250, hx250_0⟩ := Kd.at_string HR1.out x6_1 p250 q250; have hw250_0 := hx250_0; cases e250; replace hx250_0 := (HB.out.cell (World.block_lt_of_cell? w _ hx250_0)).trans hx250_0; replace p250 := eq_true p250; replace q250 := eq_true q250; refine start_ (n := 16) (S := fun w' => w'.cell? (ad249.add (x7_1).toNat) = some (.string (rdOf ByteArray.empty l0 x7_1)) ∧ w'.cell? (ad250.add (x6_1).toNat) = some (.string (rdOf ByteArray.empty l1 x6_1))) (ds := []) #[f_, f_, f_, f_, f_, f_, f_, f_, f_, f_, f_, f_, f_, f_, f_, f_] (by kernel_rfl) rfl rfl ⟨((HB.out.cell (World.block_lt_of_cell? w _ hw249_0)).trans hw249_0), ((HB.out.cell (World.block_lt_of_cell? w _ hw250_0)).trans hw250_0)⟩ (fun hHeld => ?_); refine with_tabW impl_match.tab5 impl_match.bits5 (fun HT_ HW_ => ?_); generalize wr.drew = w10 at HO_5 HB hx249_0 hx250_0 hHeld ⊢; refine pure_ (i := 0) (N := some 16) (v := ?_) (a' := ?_) #[t_, f_, f_, f_, f_, f_, f_, f_, f_, f_, f_, f_, f_, f_, f_, f_] rfl rfl (any_of HT_.out (by kernel_rfl)) (fun _ _ _ h => h) (Or.inl ⟨by rfl, ?_⟩) ?_ ?_
        rotate_left
        ·intro w'; go_simp
         with_reducible rfl
        rotate_left
        ·simp only [Act.put, List.setIfInBounds_toArray, List.set_cons_zero, List.set_cons_succ, i64_w, i32_w]
         rfl
        refine pure_ (i := 1) (N := some 17) (v := ?_) (a' := ?_) #[t_, t_, f_, f_, f_, f_, f_, f_, f_, f_, f_, f_, f_, f_, f_, f_] rfl rfl (any_of HT_.out (by kernel_rfl)) (fun _ _ _ h => h) (Or.inl ⟨by rfl, ?_⟩) ?_ ?_
        rotate_left
        ·intro w'; go_simp
         with_reducible rfl
        rotate_left
        ·simp only [Act.put, List.setIfInBounds_toArray, List.set_cons_zero, List.set_cons_succ, i64_w, i32_w]
         rfl
        refine pure_ (i := 2) (N := some 18) (v := ?_) (a' := ?_) #[t_, t_, t_, f_, f_, f_, f_, f_, f_, f_, f_, f_, f_, f_, f_, f_] rfl rfl (any_of HT_.out (by kernel_rfl)) (fun _ _ _ h => h) (Or.inl ⟨by rfl, ?_⟩) ?_ ?_
        rotate_left
        ·intro w'; go_simp
         with_reducible rfl
        rotate_left
        ·simp only [Act.put, List.setIfInBounds_toArray, List.set_cons_zero, List.set_cons_succ, i64_w, i32_w]
         rfl
        refine pure_ (i := 3) (N := some 19) (v := ?_) (a' := ?_) #[t_, t_, t_, t_, f_, f_, f_, f_, f_, f_, f_, f_, f_, f_, f_, f_] rfl rfl (any_of HT_.out (by kernel_rfl)) (fun _ _ _ h => h) (Or.inl ⟨by rfl, ?_⟩) ?_ ?_
        rotate_left
        ·intro w'; go_simp
         with_reducible rfl
        rotate_left
        ·simp only [Act.put, List.setIfInBounds_toArray, List.set_cons_zero, List.set_cons_succ, i64_w, i32_w]
         rfl
        refine pure_ (i := 4) (N := some 20) (v := ?_) (a' := ?_) #[t_, t_, t_, t_, t_, f_, f_, f_, f_, f_, f_, f_, f_, f_, f_, f_] rfl rfl (any_of HT_.out (by kernel_rfl)) (fun _ _ _ h => h) (Or.inl ⟨by rfl, ?_⟩) ?_ ?_
        rotate_left
        ·intro w'; go_simp
         with_reducible rfl
        rotate_left
        ·simp only [Act.put, List.setIfInBounds_toArray, List.set_cons_zero, List.set_cons_succ, i64_w, i32_w]
         rfl
        refine pure_ (i := 5) (N := some 21) (v := ?_) (a' := ?_) #[t_, t_, t_, t_, t_, t_, f_, f_, f_, f_, f_, f_, f_, f_, f_, f_] rfl rfl (any_of HT_.out (by kernel_rfl)) (fun _ _ _ h => h) (Or.inl ⟨by rfl, ?_⟩) ?_ ?_
        rotate_left
        ·intro w'; go_simp
         with_reducible rfl
        rotate_left
        ·simp only [Act.put, List.setIfInBounds_toArray, List.set_cons_zero, List.set_cons_succ, i64_w, i32_w]
         rfl
        refine pure_ (i := 6) (N := some 22) (v := ?_) (a' := ?_) #[t_, t_, t_, t_, t_, t_, t_, f_, f_, f_, f_, f_, f_, f_, f_, f_] rfl rfl (any_of HT_.out (by kernel_rfl)) (fun _ _ _ h => h) (Or.inl ⟨by rfl, ?_⟩) ?_ ?_
        rotate_left
        ·intro w'; go_simp
         with_reducible rfl
        rotate_left
        ·simp only [Act.put, List.setIfInBounds_toArray, List.set_cons_zero, List.set_cons_succ, i64_w, i32_w]
         rfl
        refine pure_ (i := 7) (N := some 23) (v := ?_) (a' := ?_) #[t_, t_, t_, t_, t_, t_, t_, t_, f_, f_, f_, f_, f_, f_, f_, f_] rfl rfl (any_of HT_.out (by kernel_rfl)) (fun _ _ _ h => h) (Or.inl ⟨by rfl, ?_⟩) ?_ ?_
        rotate_left
        ·intro w'; go_simp
         with_reducible rfl
        rotate_left
        ·simp only [Act.put, List.setIfInBounds_toArray, List.set_cons_zero, List.set_cons_succ, i64_w, i32_w]
         rfl
        refine pure_ (i := 9) (N := some 25) (v := ?_) (a' := ?_) #[t_, t_, t_, t_, t_, t_, t_, t_, f_, t_, f_, f_, f_, f_, f_, f_] rfl rfl (any_of HT_.out (by kernel_rfl)) (fun _ _ _ h => h) (Or.inl ⟨by rfl, ?_⟩) ?_ ?_
        rotate_left
        ·intro w'; go_simp
         with_reducible rfl
        rotate_left
        ·simp only [Act.put, List.setIfInBounds_toArray, List.set_cons_zero, List.set_cons_succ, i64_w, i32_w]
         rfl
        refine pure_ (i := 10) (N := some 26) (v := ?_) (a' := ?_) #[t_, t_, t_, t_, t_, t_, t_, t_, f_, t_, t_, f_, f_, f_, f_, f_] rfl rfl (any_of HT_.out (by kernel_rfl)) (fun _ _ _ h => h) (Or.inl ⟨by rfl, ?_⟩) ?_ ?_
        rotate_left
        ·intro w'; go_simp
         with_reducible rfl
        rotate_left
        ·simp only [Act.put, List.setIfInBounds_toArray, List.set_cons_zero, List.set_cons_succ, i64_w, i32_w]
         rfl
        refine pure_ (i := 11) (N := some 27) (v := ?_) (a' := ?_) #[t_, t_, t_, t_, t_, t_, t_, t_, f_, t_, t_, t_, f_, f_, f_, f_] rfl rfl (any_of HT_.out (by kernel_rfl)) (fun _ _ _ h => h) (Or.inl ⟨by rfl, ?_⟩) ?_ ?_
        rotate_left
        ·intro w'; go_simp
         with_reducible rfl
        rotate_left
        ·simp only [Act.put, List.setIfInBounds_toArray, List.set_cons_zero, List.set_cons_succ, i64_w, i32_w]
         rfl
        refine take_ (i := 8) (N := some 24) (v := ?_) (a' := ?_) #[t_, t_, t_, t_, t_, t_, t_, t_, t_, t_, t_, t_, f_, f_, f_, f_] rfl rfl (take_ofW HT_.out HW_.out (by kernel_rfl)) (fun _ _ _ h => h) (Or.inl ⟨by rfl, ?_⟩) hHeld ?_ ?_
        rotate_left
        ·rintro w' ⟨s0, s1⟩; go_simp
         with_reducible rfl
        rotate_left
        ·simp only [Act.put, List.setIfInBounds_toArray, List.set_cons_zero, List.set_cons_succ, i64_w, i32_w]
         rfl
        refine take_ (i := 12) (N := some 28) (v := ?_) (a' := ?_) #[t_, t_, t_, t_, t_, t_, t_, t_, t_, t_, t_, t_, t_, f_, f_, f_] rfl rfl (take_ofW HT_.out HW_.out (by kernel_rfl)) (fun _ _ _ h => h) (Or.inl ⟨by rfl, ?_⟩) hHeld ?_ ?_
        rotate_left
        ·rintro w' ⟨s0, s1⟩; go_simp
         with_reducible rfl
        rotate_left
        ·simp only [Act.put, List.setIfInBounds_toArray, List.set_cons_zero, List.set_cons_succ, i64_w, i32_w]
         rfl
        refine pure_ (i := 13) (N := some 29) (v := ?_) (a' := ?_) #[t_, t_, t_, t_, t_, t_, t_, t_, t_, t_, t_, t_, t_, t_, f_, f_] rfl rfl (any_of HT_.out (by kernel_rfl)) (fun _ _ _ h => h) (Or.inl ⟨by rfl, ?_⟩) ?_ ?_
        rotate_left
        ·intro w'; go_simp
         with_reducible rfl
        rotate_left
        ·simp only [Act.put, List.setIfInBounds_toArray, List.set_cons_zero, List.set_cons_succ, i64_w, i32_w]
         rfl
        refine pure_ (i := 14) (N := some 30) (v := ?_) (a' := ?_) #[t_, t_, t_, t_, t_, t_, t_, t_, t_, t_, t_, t_, t_, t_, t_, f_] rfl rfl (any_of HT_.out (by kernel_rfl)) (fun _ _ _ h => h) (Or.inl ⟨by rfl, ?_⟩) ?_ ?_
        rotate_left
        ·intro w'; go_simp
         with_reducible rfl
        rotate_left
        ·simp only [Act.put, List.setIfInBounds_toArray, List.set_cons_zero, List.set_cons_succ, i64_w, i32_w]
         rfl
        refine pure_ (i := 15) (N := some 15) (v := ?_) (a' := ?_) #[t_, t_, t_, t_, t_, t_, t_, t_, t_, t_, t_, t_, t_, t_, t_, t_] rfl rfl (any_of HT_.out (by kernel_rfl)) (fun _ _ _ h => h) (Or.inl ⟨by rfl, ?_⟩) ?_ ?_
        rotate_left
        ·intro w'; go_simp
         with_reducible rfl
        rotate_left
        ·simp only [Act.put, List.setIfInBounds_toArray, List.set_cons_zero, List.set_cons_succ, i64_w, i32_w]
         rfl
        refine done_ (done_of HT_.out (by kernel_rfl)) ?_; (try go_wp2); go_meet
        case rel => exact ⟨_, (((rdOf ByteArray.empty l0 x7_1).toList == (rdOf ByteArray.empty l1 x6_1).toList)), (by first | rfl | (simp; done) | (simp [*]; done)), H', ⟨by have := HK1.out; first | omega | exact Nat.le_refl _⟩, ⟨by (with_reducible repeat (first | apply Kd.R_alloc | apply Kd.R_drewN | apply Kd.R_drew)); exact HO_5.out⟩, ⟨by repeat (first | (with_reducible first | exact HB.out | apply below_alloc | apply pw_below_drewN | apply below_drew1) | exact HB.out)⟩⟩
       ·rw [if_neg c9] at H; exact absurd H (by simp)
      ·rw [if_neg c8] at H; exact absurd H (by simp)
     ·rw [if_neg c7] at H; have c7b0 : decide (x6_1 < (l1.length : Int)) = false := decide_eq_false c7; clear c7
      (first | rw [c7b0] | (simp only [i64_w, i32_w]; rw [c7b0]) | skip)
      have H' := Aside0.mk H; clear H; (try go_wp2); have n0_ := Aside0.mk (Kd.R_drew HO_5.out); have n1_ := Aside0.mk (below_drew1 HB.out); clear HO_5; clear HB; have HO_5 := n0_; have HB := n1_; clear n0_ n1_; refine start_ (n := 16) (S := fun w' => True) (ds := []) #[f_, f_, f_, f_, f_, f_, f_, f_, f_, f_, f_, f_, f_, f_, f_, f_] (by kernel_rfl) rfl rfl trivial (fun hHeld => ?_); refine with_tabW impl_match.tab5 impl_match.bits5 (fun HT_ HW_ => ?_); generalize wr.drew = w11 at HO_5 HB hHeld ⊢; refine pure_ (i := 0) (N := some 16) (v := ?_) (a' := ?_) #[t_, f_, f_, f_, f_, f_, f_, f_, f_, f_, f_, f_, f_, f_, f_, f_] rfl rfl (any_of HT_.out (by kernel_rfl)) (fun _ _ _ h => h) (Or.inl ⟨by rfl, ?_⟩) ?_ ?_
      rotate_left
      ·intro w'; go_simp
       with_reducible rfl
      rotate_left
      ·simp only [Act.put, List.setIfInBounds_toArray, List.set_cons_zero, List.set_cons_succ, i64_w, i32_w]
       rfl
      refine pure_ (i := 1) (N := some 17) (v := ?_) (a' := ?_) #[t_, t_, f_, f_, f_, f_, f_, f_, f_, f_, f_, f_, f_, f_, f_, f_] rfl rfl (any_of HT_.out (by kernel_rfl)) (fun _ _ _ h => h) (Or.inl ⟨by rfl, ?_⟩) ?_ ?_
      rotate_left
      ·intro w'; go_simp
       with_reducible rfl
      rotate_left
      ·simp only [Act.put, List.setIfInBounds_toArray, List.set_cons_zero, List.set_cons_succ, i64_w, i32_w]
       rfl
      refine pure_ (i := 2) (N := some 18) (v := ?_) (a' := ?_) #[t_, t_, t_, f_, f_, f_, f_, f_, f_, f_, f_, f_, f_, f_, f_, f_] rfl rfl (any_of HT_.out (by kernel_rfl)) (fun _ _ _ h => h) (Or.inl ⟨by rfl, ?_⟩) ?_ ?_
      rotate_left
      ·intro w'; go_simp
       with_reducible rfl
      rotate_left
      ·simp only [Act.put, List.setIfInBounds_toArray, List.set_cons_zero, List.set_cons_succ, i64_w, i32_w]
       rfl
      refine pure_ (i := 3) (N := some 19) (v := ?_) (a' := ?_) #[t_, t_, t_, t_, f_, f_, f_, f_, f_, f_, f_, f_, f_, f_, f_, f_] rfl rfl (any_of HT_.out (by kernel_rfl)) (fun _ _ _ h => h) (Or.inl ⟨by rfl, ?_⟩) ?_ ?_
      rotate_left
      ·intro w'; go_simp
       with_reducible rfl
      rotate_left
      ·simp only [Act.put, List.setIfInBounds_toArray, List.set_cons_zero, List.set_cons_succ, i64_w, i32_w]
       rfl
      refine pure_ (i := 4) (N := some 20) (v := ?_) (a' := ?_) #[t_, t_, t_, t_, t_, f_, f_, f_, f_, f_, f_, f_, f_, f_, f_, f_] rfl rfl (any_of HT_.out (by kernel_rfl)) (fun _ _ _ h => h) (Or.inl ⟨by rfl, ?_⟩) ?_ ?_
      rotate_left
      ·intro w'; go_simp
       with_reducible rfl
      rotate_left
      ·simp only [Act.put, List.setIfInBounds_toArray, List.set_cons_zero, List.set_cons_succ, i64_w, i32_w]
       rfl
      refine pure_ (i := 5) (N := some 21) (v := undef) (a' := ?_) #[t_, t_, t_, t_, t_, t_, f_, f_, f_, f_, f_, f_, f_, f_, f_, f_] rfl rfl (any_of HT_.out (by kernel_rfl)) (fun _ _ _ h => h) (Or.inr ⟨by rfl, rfl⟩) ?_ ?_
      rotate_left
      ·simp only [Act.put, List.setIfInBounds_toArray, List.set_cons_zero, List.set_cons_succ, i64_w, i32_w]
       rfl
      refine pure_ (i := 6) (N := some 22) (v := undef) (a' := ?_) #[t_, t_, t_, t_, t_, t_, t_, f_, f_, f_, f_, f_, f_, f_, f_, f_] rfl rfl (any_of HT_.out (by kernel_rfl)) (fun _ _ _ h => h) (Or.inr ⟨by rfl, rfl⟩) ?_ ?_
      rotate_left
      ·simp only [Act.put, List.setIfInBounds_toArray, List.set_cons_zero, List.set_cons_succ, i64_w, i32_w]
       rfl
      refine pure_ (i := 7) (N := some 23) (v := undef) (a' := ?_) #[t_, t_, t_, t_, t_, t_, t_, t_, f_, f_, f_, f_, f_, f_, f_, f_] rfl rfl (any_of HT_.out (by kernel_rfl)) (fun _ _ _ h => h) (Or.inr ⟨by rfl, rfl⟩) ?_ ?_
      rotate_left
      ·simp only [Act.put, List.setIfInBounds_toArray, List.set_cons_zero, List.set_cons_succ, i64_w, i32_w]
       rfl
      refine pure_ (i := 8) (N := some 24) (v := undef) (a' := ?_) #[t_, t_, t_, t_, t_, t_, t_, t_, t_, f_, f_, f_, f_, f_, f_, f_] rfl rfl (any_of HT_.out (by kernel_rfl)) (fun _ _ _ h => h) (Or.inr ⟨by rfl, rfl⟩) ?_ ?_
      rotate_left
      ·simp only [Act.put, List.setIfInBounds_toArray, List.set_cons_zero, List.set_cons_succ, i64_w, i32_w]
       rfl
      refine pure_ (i := 9) (N := some 25) (v := undef) (a' := ?_) #[t_, t_, t_, t_, t_, t_, t_, t_, t_, t_, f_, f_, f_, f_, f_, f_] rfl rfl (any_of HT_.out (by kernel_rfl)) (fun _ _ _ h => h) (Or.inr ⟨by rfl, rfl⟩) ?_ ?_
      rotate_left
      ·simp only [Act.put, List.setIfInBounds_toArray, List.set_cons_zero, List.set_cons_succ, i64_w, i32_w]
       rfl
      refine pure_ (i := 10) (N := some 26) (v := undef) (a' := ?_) #[t_, t_, t_, t_, t_, t_, t_, t_, t_, t_, t_, f_, f_, f_, f_, f_] rfl rfl (any_of HT_.out (by kernel_rfl)) (fun _ _ _ h => h) (Or.inr ⟨by rfl, rfl⟩) ?_ ?_
      rotate_left
      ·simp only [Act.put, List.setIfInBounds_toArray, List.set_cons_zero, List.set_cons_succ, i64_w, i32_w]
       rfl
      refine pure_ (i := 11) (N := some 27) (v := undef) (a' := ?_) #[t_, t_, t_, t_, t_, t_, t_, t_, t_, t_, t_, t_, f_, f_, f_, f_] rfl rfl (any_of HT_.out (by kernel_rfl)) (fun _ _ _ h => h) (Or.inr ⟨by rfl, rfl⟩) ?_ ?_
      rotate_left
      ·simp only [Act.put, List.setIfInBounds_toArray, List.set_cons_zero, List.set_cons_succ, i64_w, i32_w]
       rfl
      refine pure_ (i := 12) (N := some 28) (v := undef) (a' := ?_) #[t_, t_, t_, t_, t_, t_, t_, t_, t_, t_, t_, t_, t_, f_, f_, f_] rfl rfl (any_of HT_.out (by kernel_rfl)) (fun _ _ _ h => h) (Or.inr ⟨by rfl, rfl⟩) ?_ ?_
      rotate_left
      ·simp only [Act.put, List.setIfInBounds_toArray, List.set_cons_zero, List.set_cons_succ, i64_w, i32_w]
       rfl
      refine pure_ (i := 13) (N := some 29) (v := undef) (a' := ?_) #[t_, t_, t_, t_, t_, t_, t_, t_, t_, t_, t_, t_, t_, t_, f_, f_] rfl rfl (any_of HT_.out (by kernel_rfl)) (fun _ _ _ h => h) (Or.inr ⟨by rfl, rfl⟩) ?_ ?_
      rotate_left
      ·simp only [Act.put, List.setIfInBounds_toArray, List.set_cons_zero, List.set_cons_succ, i64_w, i32_w]
       rfl
      refine pure_ (i := 14) (N := some 30) (v := ?_) (a' := ?_) #[t_, t_, t_, t_, t_, t_, t_, t_, t_, t_, t_, t_, t_, t_, t_, f_] rfl rfl (any_of HT_.out (by kernel_rfl)) (fun _ _ _ h => h) (Or.inl ⟨by rfl, ?_⟩) ?_ ?_
      rotate_left
      ·intro w'; go_simp
       with_reducible rfl
      rotate_left
      ·simp only [Act.put, List.setIfInBounds_toArray, List.set_cons_zero, List.set_cons_succ, i64_w, i32_w]
       rfl
      refine pure_ (i := 15) (N := some 15) (v := ?_) (a' := ?_) #[t_, t_, t_, t_, t_, t_, t_, t_, t_, t_, t_, t_, t_, t_, t_, t_] rfl rfl (any_of HT_.out (by kernel_rfl)) (fun _ _ _ h => h) (Or.inl ⟨by rfl, ?_⟩) ?_ ?_
      rotate_left
      ·intro w'; go_simp
       with_reducible rfl
      rotate_left
      ·simp only [Act.put, List.setIfInBounds_toArray, List.set_cons_zero, List.set_cons_succ, i64_w, i32_w]
       rfl
      refine done_ (done_of HT_.out (by kernel_rfl)) ?_; (try go_wp2); go_meet
      case rel => exact ⟨_, (false), (by first | rfl | (simp; done) | (simp [*]; done)), H', ⟨by have := HK1.out; first | omega | exact Nat.le_refl _⟩, ⟨by (with_reducible repeat (first | apply Kd.R_alloc | apply Kd.R_drewN | apply Kd.R_drew)); exact HO_5.out⟩, ⟨by repeat (first | (with_reducible first | exact HB.out | apply below_alloc | apply pw_below_drewN | apply below_drew1) | exact HB.out)⟩⟩
    case rest =>
     clear HC6; (try clear c1); (try clear p2); (try clear q2); (try clear hx2); (try clear c5); (try clear c5b0); (try clear c7); (try clear c7b0); (try clear c8); (try clear c8b0); (try clear c9); (try clear c9b0); (try clear hx249_0); (try clear hx250_0); (try clear p2); (try clear p249); (try clear p250); (try clear q249); (try clear q250); obtain ⟨kq, x15_5, rfl, HA, HJ5, HO_5, HB⟩ := hcut
     cases kq with
     | zero => exact absurd HA.out (by simp [impl_match.j1])
     | succ kj5 =>
      have H := HA.out; clear HA; simp only [impl_match.j1] at H; by_cases c12 : x15_5 = true
      ·subst c12; (have H1 : (if x5_1.length < 17592186044416 then (impl_match.l0 kj5 l0 l1 (x5_1 ++ [x6_1]) (wrap64 (x6_1 + 1)) (wrap64 (x7_1 + 1))) else (none)) = some r := by rw [if_pos rfl] at H; exact H); clear H; have H := H1; clear H1; by_cases c13 : x5_1.length < 17592186044416
       ·rw [if_pos c13] at H; have LMc13 := Aside0.mk c13; clear c13; obtain ⟨y251, hy251⟩ : ∃ y_ : List Int, y_ = (x5_1 ++ [x6_1]) := ⟨_, rfl⟩; (replace H : (impl_match.l0 kj5 l0 l1 y251 (wrap64 (x6_1 + 1)) (wrap64 (x7_1 + 1))) = some r := by first | (rw [hy251]; with_reducible exact H) | (have H2_ := (Option.bind_some _ _).symm.trans H; rw [hy251]; with_reducible exact H2_) | (have H2_ := (Option.bind_some _ _).symm.trans H; with_reducible exact H2_) | with_reducible exact H | (rw [hy251]; exact H) | exact H); have Ny251 := Aside0.mk hy251; clear hy251; have H' := Aside0.mk H; clear H; go_wp2_with (first | ((with_reducible refine gate_builtin (b := .append) (xs := #[.tmp 31, .tmp 33]) rfl ?_); at_builtin; refine Kd.R_append (Kd.int .i64) (w0 := w) w.heap.size rfl (.tmp 31) (.tmp 33) 80 3 (.int .i64 0) 8 rfl Try.underlying80 info3 rfl (by decide) (by omega) u5 x5_1 x6_1 [.int .i64 x6_1] (fun _ => True) (fun _ => False) rfl rfl ?aP (fun _ hk => hk.elim) ?aF ?aO ?aB ?aS ?aL ?_; (case aP => exact rfl); (case aB => exact (by repeat (first | (with_reducible first | exact HB.out | apply below_alloc | apply pw_below_drewN | apply below_drew1) | exact HB.out))); (case aF => exact (fun _ _ => trivial)); (case aO => exact (by (with_reducible repeat (first | apply Kd.R_alloc | apply Kd.R_drewN | apply Kd.R_drew)); exact HO_5.out)); (case aS => exact (below_size (by repeat (first | (with_reducible first | exact HB.out | apply below_alloc | apply pw_below_drewN | apply below_drew1) | exact HB.out)))); (case aL => have := LMc13.out; omega); intro v252 w14 ho hb hg hat; rw [← Ny251.out] at ho; have n0_ := Aside0.mk (hb); have n1_ := Aside0.mk (ho); clear HB; clear HO_5; have HB := n0_; have HO253 := n1_; clear n0_ n1_; clear ho hb hg hat)); go_roundg kj5
        case measure => have := HK1.out; have := HJ5.out; omega
        case rel => exact ⟨(y251), (wrap64 (x6_1 + 1)), (wrap64 (x7_1 + 1)), (by first | rfl | (simp; done) | (simp [*]; done)), (by first | rfl | (simp; done) | (simp [*]; done)), H', ⟨by have := HK1.out; have := HJ5.out; omega⟩, ⟨by (with_reducible repeat (first | apply Kd.R_alloc | apply Kd.R_drewN | apply Kd.R_drew)); exact HO253.out⟩, ⟨by repeat (first | (with_reducible first | exact HB.out | apply below_alloc | apply pw_below_drewN | apply below_drew1) | exact HB.out)⟩⟩
       ·rw [if_neg c13] at H; exact absurd H (by simp)
      ·replace c12 := Bool.eq_false_iff.mpr c12; subst c12; (have H1 : (if x6_1 = (l1.length : Int) then (if x5_1.length < 17592186044416 then (impl_match.l0 kj5 l0 l1 (x5_1 ++ [(-1)]) x6_1 (wrap64 (x7_1 + 1))) else (none)) else (if 0 ≤ (wrap64 (x7_1 + 1)) then (if (wrap64 (x7_1 + 1)) ≤ (l0.length : Int) then (if 0 ≤ x6_1 then (if x6_1 ≤ (l1.length : Int) then ((impl_lcs.f kj5 (l0.drop ((wrap64 (x7_1 + 1)) : Int).toNat) (l1.drop (x6_1 : Int).toNat)).bind fun t259 => (if 0 ≤ x7_1 then (if x7_1 ≤ (l0.length : Int) then (if 0 ≤ (wrap64 (x6_1 + 1)) then (if (wrap64 (x6_1 + 1)) ≤ (l1.length : Int) then ((impl_lcs.f kj5 (l0.drop (x7_1 : Int).toNat) (l1.drop ((wrap64 (x6_1 + 1)) : Int).toNat)).bind fun t262 => (if t259 ≥ t262 then (if x5_1.length < 17592186044416 then (impl_match.l0 kj5 l0 l1 (x5_1 ++ [(-1)]) x6_1 (wrap64 (x7_1 + 1))) else (none)) else (impl_match.l0 kj5 l0 l1 x5_1 (wrap64 (x6_1 + 1)) x7_1))) else (none)) else (none)) else (none)) else (none))) else (none)) else (none)) else (none)) else (none))) = some r := by rw [if_neg (show ¬ (false = true) by decide)] at H; exact H); clear H; have H := H1; clear H1; by_cases c15 : x6_1 = (l1.length : Int)
       ·rw [if_pos c15] at H; have c15b0 : (x6_1 == (l1.length : Int)) = true := beq_iff_eq.mpr c15; have c15b1 : (x6_1 != (l1.length : Int)) = false := bne_eq_false_iff_eq.mpr c15; clear c15; by_cases c16 : x5_1.length < 17592186044416
        ·rw [if_pos c16] at H; have LMc16 := Aside0.mk c16; clear c16; obtain ⟨y254, hy254⟩ : ∃ y_ : List Int, y_ = (x5_1 ++ [(-1)]) := ⟨_, rfl⟩; (replace H : (impl_match.l0 kj5 l0 l1 y254 x6_1 (wrap64 (x7_1 + 1))) = some r := by first | (rw [hy254]; with_reducible exact H) | (have H2_ := (Option.bind_some _ _).symm.trans H; rw [hy254]; with_reducible exact H2_) | (have H2_ := (Option.bind_some _ _).symm.trans H; with_reducible exact H2_) | with_reducible exact H | (rw [hy254]; exact H) | exact H); have Ny254 := Aside0.mk hy254; clear hy254; have H' := Aside0.mk H; clear H; (try go_wp2); have n0_ := Aside0.mk (Kd.R_drew HO_5.out); have n1_ := Aside0.mk (below_drew1 HB.out); clear HO_5; clear HB; have HO_5 := n0_; have HB := n1_; clear n0_ n1_; refine start_ (n := 24) (S := fun w' => True) (ds := []) #[f_, f_, f_, f_, f_, f_, f_, f_, f_, f_, f_, f_, f_, f_, f_, f_, f_, f_, f_, f_, f_, f_, f_, f_] (by kernel_rfl) rfl rfl trivial (fun hHeld => ?_); refine with_tabW impl_match.tab8 impl_match.bits8 (fun HT_ HW_ => ?_); generalize wc.drew = w17 at HO_5 HB hHeld ⊢; refine pure_ (i := 0) (N := some 40) (v := ?_) (a' := ?_) #[t_, f_, f_, f_, f_, f_, f_, f_, f_, f_, f_, f_, f_, f_, f_, f_, f_, f_, f_, f_, f_, f_, f_, f_] rfl rfl (any_of HT_.out (by kernel_rfl)) (fun _ _ _ h => h) (Or.inl ⟨by rfl, ?_⟩) ?_ ?_
         rotate_left
         ·intro w'; go_simp
          with_reducible rfl
         rotate_left
         ·simp only [Act.put, List.setIfInBounds_toArray, List.set_cons_zero, List.set_cons_succ, i64_w, i32_w]
          rfl
         refine pure_ (i := 1) (N := some 41) (v := ?_) (a' := ?_) #[t_, t_, f_, f_, f_, f_, f_, f_, f_, f_, f_, f_, f_, f_, f_, f_, f_, f_, f_, f_, f_, f_, f_, f_] rfl rfl (any_of HT_.out (by kernel_rfl)) (fun _ _ _ h => h) (Or.inl ⟨by rfl, ?_⟩) ?_ ?_
         rotate_left
         ·intro w'; go_simp
          with_reducible rfl
         rotate_left
         ·simp only [Act.put, List.setIfInBounds_toArray, List.set_cons_zero, List.set_cons_succ, i64_w, i32_w]
          rfl
         refine pure_ (i := 2) (N := some 42) (v := ?_) (a' := ?_) #[t_, t_, t_, f_, f_, f_, f_, f_, f_, f_, f_, f_, f_, f_, f_, f_, f_, f_, f_, f_, f_, f_, f_, f_] rfl rfl (any_of HT_.out (by kernel_rfl)) (fun _ _ _ h => h) (Or.inl ⟨by rfl, ?_⟩) ?_ ?_
         rotate_left
         ·intro w'; go_simp
          with_reducible rfl
         rotate_left
         ·simp only [Act.put, List.setIfInBounds_toArray, List.set_cons_zero, List.set_cons_succ, i64_w, i32_w]
          rfl
         refine pure_ (i := 3) (N := some 43) (v := ?_) (a' := ?_) #[t_, t_, t_, t_, f_, f_, f_, f_, f_, f_, f_, f_, f_, f_, f_, f_, f_, f_, f_, f_, f_, f_, f_, f_] rfl rfl (any_of HT_.out (by kernel_rfl)) (fun _ _ _ h => h) (Or.inl ⟨by rfl, ?_⟩) ?_ ?_
         rotate_left
         ·intro w'; go_simp
          with_reducible rfl
         rotate_left
         ·simp only [Act.put, List.setIfInBounds_toArray, List.set_cons_zero, List.set_cons_succ, i64_w, i32_w]
          rfl
         refine pure_ (i := 4) (N := some 44) (v := ?_) (a' := ?_) #[t_, t_, t_, t_, t_, f_, f_, f_, f_, f_, f_, f_, f_, f_, f_, f_, f_, f_, f_, f_, f_, f_, f_, f_] rfl rfl (any_of HT_.out (by kernel_rfl)) (fun _ _ _ h => h) (Or.inl ⟨by rfl, ?_⟩) ?_ ?_
         rotate_left
         ·intro w'; go_simp
          with_reducible rfl
         rotate_left
         ·simp only [Act.put, List.setIfInBounds_toArray, List.set_cons_zero, List.set_cons_succ, i64_w, i32_w]
          rfl
         refine pure_ (i := 5) (N := some 45) (v := undef) (a' := ?_) #[t_, t_, t_, t_, t_, t_, f_, f_, f_, f_, f_, f_, f_, f_, f_, f_, f_, f_, f_, f_, f_, f_, f_, f_] rfl rfl (any_of HT_.out (by kernel_rfl)) (fun _ _ _ h => h) (Or.inr ⟨by rfl, rfl⟩) ?_ ?_
         rotate_left
         ·simp only [Act.put, List.setIfInBounds_toArray, List.set_cons_zero, List.set_cons_succ, i64_w, i32_w]
          rfl
         refine pure_ (i := 6) (N := some 46) (v := undef) (a' := ?_) #[t_, t_, t_, t_, t_, t_, t_, f_, f_, f_, f_, f_, f_, f_, f_, f_, f_, f_, f_, f_, f_, f_, f_, f_] rfl rfl (any_of HT_.out (by kernel_rfl)) (fun _ _ _ h => h) (Or.inr ⟨by rfl, rfl⟩) ?_ ?_
         rotate_left
         ·simp only [Act.put, List.setIfInBounds_toArray, List.set_cons_zero, List.set_cons_succ, i64_w, i32_w]
          rfl
         refine pure_ (i := 7) (N := some 47) (v := undef) (a' := ?_) #[t_, t_, t_, t_, t_, t_, t_, t_, f_, f_, f_, f_, f_, f_, f_, f_, f_, f_, f_, f_, f_, f_, f_, f_] rfl rfl (any_of HT_.out (by kernel_rfl)) (fun _ _ _ h => h) (Or.inr ⟨by rfl, rfl⟩) ?_ ?_
         rotate_left
         ·simp only [Act.put, List.setIfInBounds_toArray, List.set_cons_zero, List.set_cons_succ, i64_w, i32_w]
          rfl
         refine pure_ (i := 8) (N := some 48) (v := undef) (a' := ?_) #[t_, t_, t_, t_, t_, t_, t_, t_, t_, f_, f_, f_, f_, f_, f_, f_, f_, f_, f_, f_, f_, f_, f_, f_] rfl rfl (any_of HT_.out (by kernel_rfl)) (fun _ _ _ h => h) (Or.inr ⟨by rfl, rfl⟩) ?_ ?_
         rotate_left
         ·simp only [Act.put, List.setIfInBounds_toArray, List.set_cons_zero, List.set_cons_succ, i64_w, i32_w]
          rfl
         refine pure_ (i := 9) (N := some 49) (v := undef) (a' := ?_) #[t_, t_, t_, t_, t_, t_, t_, t_, t_, t_, f_, f_, f_, f_, f_, f_, f_, f_, f_, f_, f_, f_, f_, f_] rfl rfl (any_of HT_.out (by kernel_rfl)) (fun _ _ _ h => h) (Or.inr ⟨by rfl, rfl⟩) ?_ ?_
         rotate_left
         ·simp only [Act.put, List.setIfInBounds_toArray, List.set_cons_zero, List.set_cons_succ, i64_w, i32_w]
          rfl
         refine pure_ (i := 10) (N := some 50) (v := undef) (a' := ?_) #[t_, t_, t_, t_, t_, t_, t_, t_, t_, t_, t_, f_, f_, f_, f_, f_, f_, f_, f_, f_, f_, f_, f_, f_] rfl rfl (any_of HT_.out (by kernel_rfl)) (fun _ _ _ h => h) (Or.inr ⟨by rfl, rfl⟩) ?_ ?_
         rotate_left
         ·simp only [Act.put, List.setIfInBounds_toArray, List.set_cons_zero, List.set_cons_succ, i64_w, i32_w]
          rfl
         refine pure_ (i := 11) (N := some 51) (v := undef) (a' := ?_) #[t_, t_, t_, t_, t_, t_, t_, t_, t_, t_, t_, t_, f_, f_, f_, f_, f_, f_, f_, f_, f_, f_, f_, f_] rfl rfl (any_of HT_.out (by kernel_rfl)) (fun _ _ _ h => h) (Or.inr ⟨by rfl, rfl⟩) ?_ ?_
         rotate_left
         ·simp only [Act.put, List.setIfInBounds_toArray, List.set_cons_zero, List.set_cons_succ, i64_w, i32_w]
          rfl
         refine pure_ (i := 12) (N := some 52) (v := undef) (a' := ?_) #[t_, t_, t_, t_, t_, t_, t_, t_, t_, t_, t_, t_, t_, f_, f_, f_, f_, f_, f_, f_, f_, f_, f_, f_] rfl rfl (any_of HT_.out (by kernel_rfl)) (fun _ _ _ h => h) (Or.inr ⟨by rfl, rfl⟩) ?_ ?_
         rotate_left
         ·simp only [Act.put, List.setIfInBounds_toArray, List.set_cons_zero, List.set_cons_succ, i64_w, i32_w]
          rfl
         refine pure_ (i := 13) (N := some 53) (v := undef) (a' := ?_) #[t_, t_, t_, t_, t_, t_, t_, t_, t_, t_, t_, t_, t_, t_, f_, f_, f_, f_, f_, f_, f_, f_, f_, f_] rfl rfl (any_of HT_.out (by kernel_rfl)) (fun _ _ _ h => h) (Or.inr ⟨by rfl, rfl⟩) ?_ ?_
         rotate_left
         ·simp only [Act.put, List.setIfInBounds_toArray, List.set_cons_zero, List.set_cons_succ, i64_w, i32_w]
          rfl
         refine pure_ (i := 14) (N := some 54) (v := undef) (a' := ?_) #[t_, t_, t_, t_, t_, t_, t_, t_, t_, t_, t_, t_, t_, t_, t_, f_, f_, f_, f_, f_, f_, f_, f_, f_] rfl rfl (any_of HT_.out (by kernel_rfl)) (fun _ _ _ h => h) (Or.inr ⟨by rfl, rfl⟩) ?_ ?_
         rotate_left
         ·simp only [Act.put, List.setIfInBounds_toArray, List.set_cons_zero, List.set_cons_succ, i64_w, i32_w]
          rfl
         refine pure_ (i := 15) (N := some 55) (v := undef) (a' := ?_) #[t_, t_, t_, t_, t_, t_, t_, t_, t_, t_, t_, t_, t_, t_, t_, t_, f_, f_, f_, f_, f_, f_, f_, f_] rfl rfl (any_of HT_.out (by kernel_rfl)) (fun _ _ _ h => h) (Or.inr ⟨by rfl, rfl⟩) ?_ ?_
         rotate_left
         ·simp only [Act.put, List.setIfInBounds_toArray, List.set_cons_zero, List.set_cons_succ, i64_w, i32_w]
          rfl
         refine pure_ (i := 16) (N := some 56) (v := undef) (a' := ?_) #[t_, t_, t_, t_, t_, t_, t_, t_, t_, t_, t_, t_, t_, t_, t_, t_, t_, f_, f_, f_, f_, f_, f_, f_] rfl rfl (any_of HT_.out (by kernel_rfl)) (fun _ _ _ h => h) (Or.inr ⟨by rfl, rfl⟩) ?_ ?_
         rotate_left
         ·simp only [Act.put, List.setIfInBounds_toArray, List.set_cons_zero, List.set_cons_succ, i64_w, i32_w]
          rfl
         refine pure_ (i := 17) (N := some 57) (v := undef) (a' := ?_) #[t_, t_, t_, t_, t_, t_, t_, t_, t_, t_, t_, t_, t_, t_, t_, t_, t_, t_, f_, f_, f_, f_, f_, f_] rfl rfl (any_of HT_.out (by kernel_rfl)) (fun _ _ _ h => h) (Or.inr ⟨by rfl, rfl⟩) ?_ ?_
         rotate_left
         ·simp only [Act.put, List.setIfInBounds_toArray, List.set_cons_zero, List.set_cons_succ, i64_w, i32_w]
          rfl
         refine pure_ (i := 18) (N := some 58) (v := undef) (a' := ?_) #[t_, t_, t_, t_, t_, t_, t_, t_, t_, t_, t_, t_, t_, t_, t_, t_, t_, t_, t_, f_, f_, f_, f_, f_] rfl rfl (any_of HT_.out (by kernel_rfl)) (fun _ _ _ h => h) (Or.inr ⟨by rfl, rfl⟩) ?_ ?_
         rotate_left
         ·simp only [Act.put, List.setIfInBounds_toArray, List.set_cons_zero, List.set_cons_succ, i64_w, i32_w]
          rfl
         refine pure_ (i := 19) (N := some 59) (v := undef) (a' := ?_) #[t_, t_, t_, t_, t_, t_, t_, t_, t_, t_, t_, t_, t_, t_, t_, t_, t_, t_, t_, t_, f_, f_, f_, f_] rfl rfl (any_of HT_.out (by kernel_rfl)) (fun _ _ _ h => h) (Or.inr ⟨by rfl, rfl⟩) ?_ ?_
         rotate_left
         ·simp only [Act.put, List.setIfInBounds_toArray, List.set_cons_zero, List.set_cons_succ, i64_w, i32_w]
          rfl
         refine pure_ (i := 20) (N := some 60) (v := undef) (a' := ?_) #[t_, t_, t_, t_, t_, t_, t_, t_, t_, t_, t_, t_, t_, t_, t_, t_, t_, t_, t_, t_, t_, f_, f_, f_] rfl rfl (any_of HT_.out (by kernel_rfl)) (fun _ _ _ h => h) (Or.inr ⟨by rfl, rfl⟩) ?_ ?_
         rotate_left
         ·simp only [Act.put, List.setIfInBounds_toArray, List.set_cons_zero, List.set_cons_succ, i64_w, i32_w]
          rfl
         refine pure_ (i := 21) (N := some 61) (v := undef) (a' := ?_) #[t_, t_, t_, t_, t_, t_, t_, t_, t_, t_, t_, t_, t_, t_, t_, t_, t_, t_, t_, t_, t_, t_, f_, f_] rfl rfl (any_of HT_.out (by kernel_rfl)) (fun _ _ _ h => h) (Or.inr ⟨by rfl, rfl⟩) ?_ ?_
         rotate_left
         ·simp only [Act.put, List.setIfInBounds_toArray, List.set_cons_zero, List.set_cons_succ, i64_w, i32_w]
          rfl
         refine pure_ (i := 22) (N := some 62) (v := ?_) (a' := ?_) #[t_, t_, t_, t_, t_, t_, t_, t_, t_, t_, t_, t_, t_, t_, t_, t_, t_, t_, t_, t_, t_, t_, t_, f_] rfl rfl (any_of HT_.out (by kernel_rfl)) (fun _ _ _ h => h) (Or.inl ⟨by rfl, ?_⟩) ?_ ?_
         rotate_left
         ·intro w'; go_simp
          with_reducible rfl
         rotate_left
         ·simp only [Act.put, List.setIfInBounds_toArray, List.set_cons_zero, List.set_cons_succ, i64_w, i32_w]
          rfl
         refine pure_ (i := 23) (N := some 39) (v := ?_) (a' := ?_) #[t_, t_, t_, t_, t_, t_, t_, t_, t_, t_, t_, t_, t_, t_, t_, t_, t_, t_, t_, t_, t_, t_, t_, t_] rfl rfl (any_of HT_.out (by kernel_rfl)) (fun _ _ _ h => h) (Or.inl ⟨by rfl, ?_⟩) ?_ ?_
         rotate_left
         ·intro w'; go_simp
          with_reducible rfl
         rotate_left
         ·simp only [Act.put, List.setIfInBounds_toArray, List.set_cons_zero, List.set_cons_succ, i64_w, i32_w]
          rfl
         refine done_ (done_of HT_.out (by kernel_rfl)) ?_; (try go_wp2_with (first | ((with_reducible refine gate_builtin (b := .append) (xs := #[.tmp 63, .tmp 64]) rfl ?_); at_builtin; refine Kd.R_append (Kd.int .i64) (w0 := w) w.heap.size rfl (.tmp 63) (.tmp 64) 80 3 (.int .i64 0) 8 rfl Try.underlying80 info3 rfl (by decide) (by omega) u5 x5_1 (-1) [.int .i64 (-1)] (fun _ => True) (fun _ => False) rfl rfl ?aP (fun _ hk => hk.elim) ?aF ?aO ?aB ?aS ?aL ?_; (case aP => exact rfl); (case aB => exact (by repeat (first | (with_reducible first | exact HB.out | apply below_alloc | apply pw_below_drewN | apply below_drew1) | exact HB.out))); (case aF => exact (fun _ _ => trivial)); (case aO => exact (by (with_reducible repeat (first | apply Kd.R_alloc | apply Kd.R_drewN | apply Kd.R_drew)); exact HO_5.out)); (case aS => exact (below_size (by repeat (first | (with_reducible first | exact HB.out | apply below_alloc | apply pw_below_drewN | apply below_drew1) | exact HB.out)))); (case aL => have := LMc16.out; omega); intro v255 w18 ho hb hg hat; rw [← Ny254.out] at ho; have n0_ := Aside0.mk (hb); have n1_ := Aside0.mk (ho); clear HB; clear HO_5; have HB := n0_; have HO256 := n1_; clear n0_ n1_; clear ho hb hg hat))); go_roundg kj5
         case measure => have := HK1.out; have := HJ5.out; omega
         case rel => exact ⟨(y254), (x6_1), (wrap64 (x7_1 + 1)), (by first | rfl | (simp; done) | (simp [*]; done)), (by first | rfl | (simp; done) | (simp [*]; done)), H', ⟨by have := HK1.out; have := HJ5.out; omega⟩, ⟨by (with_reducible repeat (first | apply Kd.R_alloc | apply Kd.R_drewN | apply Kd.R_drew)); exact HO256.out⟩, ⟨by repeat (first | (with_reducible first | exact HB.out | apply below_alloc | apply pw_below_drewN | apply below_drew1) | exact HB.out)⟩⟩
        ·rw [if_neg c16] at H; exact absurd H (by simp)
       ·rw [if_neg c15] at H; have c15b0 : (x6_1 == (l1.length : Int)) = false := beq_eq_false_iff_ne.mpr c15; have c15b1 : (x6_1 != (l1.length : Int)) = true := bne_iff_ne.mpr c15; obtain ⟨ji19, hji19⟩ : ∃ j_ : Int, (wrap64 (x7_1 + 1)) = j_ := ⟨_, rfl⟩; (replace H : (if 0 ≤ (ji19) then (if (ji19) ≤ (l0.length : Int) then (if 0 ≤ x6_1 then (if x6_1 ≤ (l1.length : Int) then ((impl_lcs.f kj5 (l0.drop ((ji19) : Int).toNat) (l1.drop (x6_1 : Int).toNat)).bind fun t259 => (if 0 ≤ x7_1 then (if x7_1 ≤ (l0.length : Int) then (if 0 ≤ (wrap64 (x6_1 + 1)) then (if (wrap64 (x6_1 + 1)) ≤ (l1.length : Int) then ((impl_lcs.f kj5 (l0.drop (x7_1 : Int).toNat) (l1.drop ((wrap64 (x6_1 + 1)) : Int).toNat)).bind fun t262 => (if t259 ≥ t262 then (if x5_1.length < 17592186044416 then (impl_match.l0 kj5 l0 l1 (x5_1 ++ [(-1)]) x6_1 ji19) else (none)) else (impl_match.l0 kj5 l0 l1 x5_1 (wrap64 (x6_1 + 1)) x7_1))) else (none)) else (none)) else (none)) else (none))) else (none)) else (none)) else (none)) else (none)) = some r := by first | (rw [hji19] at H; exact H) | (simp only [hji19] at H ⊢; exact H)); have hji19w : (IntKind.i64.wrap (x7_1 + 1)) = ji19 := (i64_w _).trans hji19; by_cases c20 : 0 ≤ (ji19)
        ·rw [if_pos c20] at H; have c20b0 := eq_true c20; have c20b1 : decide (0 ≤ (ji19)) = true := decide_eq_true c20; clear c20; by_cases c21 : (ji19) ≤ (l0.length : Int)
         ·rw [if_pos c21] at H; have c21b0 := eq_true c21; have c21b1 : decide ((ji19) ≤ (l0.length : Int)) = true := decide_eq_true c21; clear c21; by_cases c22 : 0 ≤ x6_1
          ·rw [if_pos c22] at H; have c22b0 := eq_true c22; have c22b1 : decide (0 ≤ x6_1) = true := decide_eq_true c22; clear c22; by_cases c23 : x6_1 ≤ (l1.length : Int)
           ·rw [if_pos c23] at H; have c23b0 := eq_true c23; have c23b1 : decide (x6_1 ≤ (l1.length : Int)) = true := decide_eq_true c23; clear c23; replace H := Option.bind_eq_some_iff.mp H; obtain ⟨t259, A240, H⟩ := H; replace H : (if 0 ≤ x7_1 then (if x7_1 ≤ (l0.length : Int) then (if 0 ≤ (wrap64 (x6_1 + 1)) then (if (wrap64 (x6_1 + 1)) ≤ (l1.length : Int) then ((impl_lcs.f kj5 (l0.drop (x7_1 : Int).toNat) (l1.drop ((wrap64 (x6_1 + 1)) : Int).toNat)).bind fun t262 => (if t259 ≥ t262 then (if x5_1.length < 17592186044416 then (impl_match.l0 kj5 l0 l1 (x5_1 ++ [(-1)]) x6_1 ji19) else (none)) else (impl_match.l0 kj5 l0 l1 x5_1 (wrap64 (x6_1 + 1)) x7_1))) else (none)) else (none)) else (none)) else (none)) = some r := H; have A24 := Aside0.mk A240; clear A240; by_cases c25 : 0 ≤ x7_1
            ·rw [if_pos c25] at H; have c25b0 := eq_true c25; have c25b1 : decide (0 ≤ x7_1) = true := decide_eq_true c25; clear c25; by_cases c26 : x7_1 ≤ (l0.length : Int)
             ·rw [if_pos c26] at H; have c26b0 := eq_true c26; have c26b1 : decide (x7_1 ≤ (l0.length : Int)) = true := decide_eq_true c26; clear c26; obtain ⟨ji27, hji27⟩ : ∃ j_ : Int, (wrap64 (x6_1 + 1)) = j_ := ⟨_, rfl⟩; (replace H : (if 0 ≤ (ji27) then (if (ji27) ≤ (l1.length : Int) then ((impl_lcs.f kj5 (l0.drop (x7_1 : Int).toNat) (l1.drop ((ji27) : Int).toNat)).bind fun t262 => (if t259 ≥ t262 then (if x5_1.length < 17592186044416 then (impl_match.l0 kj5 l0 l1 (x5_1 ++ [(-1)]) x6_1 ji19) else (none)) else (impl_match.l0 kj5 l0 l1 x5_1 ji27 x7_1))) else (none)) else (none)) = some r := by first | (rw [hji27] at H; exact H) | (simp only [hji27] at H ⊢; exact H))
              (try rw [hji27] at A24)
              have hji27w : (IntKind.i64.wrap (x6_1 + 1)) = ji27 := (i64_w _).trans hji27; by_cases c28 : 0 ≤ (ji27)
              ·rw [if_pos c28] at H; have c28b0 := eq_true c28; have c28b1 : decide (0 ≤ (ji27)) = true := decide_eq_true c28; clear c28; by_cases c29 : (ji27) ≤ (l1.length : Int)
               ·rw [if_pos c29] at H; have c29b0 := eq_true c29; have c29b1 : decide ((ji27) ≤ (l1.length : Int)) = true := decide_eq_true c29; clear c29; replace H := Option.bind_eq_some_iff.mp H; obtain ⟨t262, A300, H⟩ := H; replace H : (if t259 ≥ t262 then (if x5_1.length < 17592186044416 then (impl_match.l0 kj5 l0 l1 (x5_1 ++ [(-1)]) x6_1 ji19) else (none)) else (impl_match.l0 kj5 l0 l1 x5_1 ji27 x7_1)) = some r := H; have A30 := Aside0.mk A300; clear A300; by_cases c31 : t259 ≥ t262
                ·rw [if_pos c31] at H; have c31b0 : decide (t262 ≤ t259) = true := decide_eq_true c31; clear c31; by_cases c32 : x5_1.length < 17592186044416
                 ·rw [if_pos c32] at H; have LMc32 := Aside0.mk c32; clear c32; obtain ⟨y263, hy263⟩ : ∃ y_ : List Int, y_ = (x5_1 ++ [(-1)]) := ⟨_, rfl⟩; (replace H : (impl_match.l0 kj5 l0 l1 y263 x6_1 ji19) = some r := by first | (rw [hy263]; with_reducible exact H) | (have H2_ := (Option.bind_some _ _).symm.trans H; rw [hy263]; with_reducible exact H2_) | (have H2_ := (Option.bind_some _ _).symm.trans H; with_reducible exact H2_) | with_reducible exact H | (rw [hy263]; exact H) | exact H); have Ny263 := Aside0.mk hy263; clear hy263; have H' := Aside0.mk H; clear H; (try go_wp2); have n0_ := Aside0.mk (Kd.R_drew HO_5.out); have n1_ := Aside0.mk (below_drew1 HB.out); clear HO_5; clear HB; have HO_5 := n0_; have HB := n1_; clear n0_ n1_; obtain ⟨i034, hi034, _, hsz34, _⟩ := info_parts info9; obtain ⟨A34, hcut34, hA34, hC34⟩ := print_drop_of (P := Try.prog) Value.string (⟨#[]⟩ : ByteArray) 23 9 .i64 Try.underlying23 hi034 hsz34 A0 c0 l0 (ji19) (of_decide_eq_true (by assumption)) (of_decide_eq_true (by assumption)) HC0.out; have HR257 := Aside0.mk (Kd.C_of_reads (h1 := fun _ => rfl) (hA34 _ (Kd.reads_of_C HR0.out))); have HC257 := Aside0.mk hC34; clear hA34 hC34 hi034 hsz34; obtain ⟨i035, hi035, _, hsz35, _⟩ := info_parts info9; obtain ⟨A35, hcut35, hA35, hC35⟩ := print_drop_of (P := Try.prog) Value.string (⟨#[]⟩ : ByteArray) 23 9 .i64 Try.underlying23 hi035 hsz35 A1 c1 l1 x6_1 (of_decide_eq_true (by assumption)) (of_decide_eq_true (by assumption)) HC1.out; have HR258 := Aside0.mk (Kd.C_of_reads (h1 := fun _ => rfl) (hA35 _ (Kd.reads_of_C HR1.out))); have HC258 := Aside0.mk hC35; clear hA35 hC35 hi035 hsz35; obtain ⟨i036, hi036, _, hsz36, _⟩ := info_parts info9; obtain ⟨A36, hcut36, hA36, hC36⟩ := print_drop_of (P := Try.prog) Value.string (⟨#[]⟩ : ByteArray) 23 9 .i64 Try.underlying23 hi036 hsz36 A0 c0 l0 x7_1 (of_decide_eq_true (by assumption)) (of_decide_eq_true (by assumption)) HC0.out; have HR260 := Aside0.mk (Kd.C_of_reads (h1 := fun _ => rfl) (hA36 _ (Kd.reads_of_C HR0.out))); have HC260 := Aside0.mk hC36; clear hA36 hC36 hi036 hsz36; obtain ⟨i037, hi037, _, hsz37, _⟩ := info_parts info9; obtain ⟨A37, hcut37, hA37, hC37⟩ := print_drop_of (P := Try.prog) Value.string (⟨#[]⟩ : ByteArray) 23 9 .i64 Try.underlying23 hi037 hsz37 A1 c1 l1 (ji27) (of_decide_eq_true (by assumption)) (of_decide_eq_true (by assumption)) HC1.out; have HR261 := Aside0.mk (Kd.C_of_reads (h1 := fun _ => rfl) (hA37 _ (Kd.reads_of_C HR1.out))); have HC261 := Aside0.mk hC37; clear hA37 hC37 hi037 hsz37; refine start_ (n := 24) (S := fun w' => True) (ds := []) #[f_, f_, f_, f_, f_, f_, f_, f_, f_, f_, f_, f_, f_, f_, f_, f_, f_, f_, f_, f_, f_, f_, f_, f_] (by kernel_rfl) rfl rfl trivial (fun hHeld => ?_); refine with_tabW impl_match.tab8 impl_match.bits8 (fun HT_ HW_ => ?_); generalize wc.drew = w33 at HO_5 HB HR257 HR258 HR260 HR261 hHeld ⊢; refine pure_ (i := 0) (N := some 40) (v := ?_) (a' := ?_) #[t_, f_, f_, f_, f_, f_, f_, f_, f_, f_, f_, f_, f_, f_, f_, f_, f_, f_, f_, f_, f_, f_, f_, f_] rfl rfl (any_of HT_.out (by kernel_rfl)) (fun _ _ _ h => h) (Or.inl ⟨by rfl, ?_⟩) ?_ ?_
                  rotate_left
                  ·intro w'; go_simp
                   with_reducible rfl
                  rotate_left
                  ·simp only [Act.put, List.setIfInBounds_toArray, List.set_cons_zero, List.set_cons_succ, i64_w, i32_w]
                   rfl
                  refine pure_ (i := 1) (N := some 41) (v := ?_) (a' := ?_) #[t_, t_, f_, f_, f_, f_, f_, f_, f_, f_, f_, f_, f_, f_, f_, f_, f_, f_, f_, f_, f_, f_, f_, f_] rfl rfl (any_of HT_.out (by kernel_rfl)) (fun _ _ _ h => h) (Or.inl ⟨by rfl, ?_⟩) ?_ ?_
                  rotate_left
                  ·intro w'; go_simp
                   with_reducible rfl
                  rotate_left
                  ·simp only [Act.put, List.setIfInBounds_toArray, List.set_cons_zero, List.set_cons_succ, i64_w, i32_w]
                   rfl
                  refine pure_ (i := 2) (N := some 42) (v := ?_) (a' := ?_) #[t_, t_, t_, f_, f_, f_, f_, f_, f_, f_, f_, f_, f_, f_, f_, f_, f_, f_, f_, f_, f_, f_, f_, f_] rfl rfl (any_of HT_.out (by kernel_rfl)) (fun _ _ _ h => h) (Or.inl ⟨by rfl, ?_⟩) ?_ ?_
                  rotate_left
                  ·intro w'; go_simp
                   with_reducible rfl
                  rotate_left
                  ·simp only [Act.put, List.setIfInBounds_toArray, List.set_cons_zero, List.set_cons_succ, i64_w, i32_w]
                   rfl
                  refine pure_ (i := 3) (N := some 43) (v := ?_) (a' := ?_) #[t_, t_, t_, t_, f_, f_, f_, f_, f_, f_, f_, f_, f_, f_, f_, f_, f_, f_, f_, f_, f_, f_, f_, f_] rfl rfl (any_of HT_.out (by kernel_rfl)) (fun _ _ _ h => h) (Or.inl ⟨by rfl, ?_⟩) ?_ ?_
                  rotate_left
                  ·intro w'; go_simp
                   with_reducible rfl
                  rotate_left
                  ·simp only [Act.put, List.setIfInBounds_toArray, List.set_cons_zero, List.set_cons_succ, i64_w, i32_w]
                   rfl
                  refine pure_ (i := 4) (N := some 44) (v := ?_) (a' := ?_) #[t_, t_, t_, t_, t_, f_, f_, f_, f_, f_, f_, f_, f_, f_, f_, f_, f_, f_, f_, f_, f_, f_, f_, f_] rfl rfl (any_of HT_.out (by kernel_rfl)) (fun _ _ _ h => h) (Or.inl ⟨by rfl, ?_⟩) ?_ ?_
                  rotate_left
                  ·intro w'; go_simp
                   with_reducible rfl
                  rotate_left
                  ·simp only [Act.put, List.setIfInBounds_toArray, List.set_cons_zero, List.set_cons_succ, i64_w, i32_w]
                   rfl
                  refine pure_ (i := 5) (N := some 45) (v := ?_) (a' := ?_) #[t_, t_, t_, t_, t_, t_, f_, f_, f_, f_, f_, f_, f_, f_, f_, f_, f_, f_, f_, f_, f_, f_, f_, f_] rfl rfl (any_of HT_.out (by kernel_rfl)) (fun _ _ _ h => h) (Or.inl ⟨by rfl, ?_⟩) ?_ ?_
                  rotate_left
                  ·intro w'; go_simp
                   with_reducible rfl
                  rotate_left
                  ·simp only [Act.put, List.setIfInBounds_toArray, List.set_cons_zero, List.set_cons_succ, i64_w, i32_w]
                   rfl
                  refine pure_ (i := 6) (N := some 46) (v := ?_) (a' := ?_) #[t_, t_, t_, t_, t_, t_, t_, f_, f_, f_, f_, f_, f_, f_, f_, f_, f_, f_, f_, f_, f_, f_, f_, f_] rfl rfl (any_of HT_.out (by kernel_rfl)) (fun _ _ _ h => h) (Or.inl ⟨by rfl, ?_⟩) ?_ ?_
                  rotate_left
                  ·intro w'; go_simp
                   with_reducible rfl
                  rotate_left
                  ·simp only [Act.put, List.setIfInBounds_toArray, List.set_cons_zero, List.set_cons_succ, i64_w, i32_w]
                   rfl
                  refine pure_ (i := 7) (N := some 47) (v := ?_) (a' := ?_) #[t_, t_, t_, t_, t_, t_, t_, t_, f_, f_, f_, f_, f_, f_, f_, f_, f_, f_, f_, f_, f_, f_, f_, f_] rfl rfl (any_of HT_.out (by kernel_rfl)) (fun _ _ _ h => h) (Or.inl ⟨by rfl, ?_⟩) ?_ ?_
                  rotate_left
                  ·intro w'; go_simp
                   with_reducible rfl
                  rotate_left
                  ·simp only [Act.put, List.setIfInBounds_toArray, List.set_cons_zero, List.set_cons_succ, i64_w, i32_w]
                   rfl
                  refine pure_ (i := 8) (N := some 48) (v := ?_) (a' := ?_) #[t_, t_, t_, t_, t_, t_, t_, t_, t_, f_, f_, f_, f_, f_, f_, f_, f_, f_, f_, f_, f_, f_, f_, f_] rfl rfl (any_of HT_.out (by kernel_rfl)) (fun _ _ _ h => h) (Or.inl ⟨by rfl, ?_⟩) ?_ ?_
                  rotate_left
                  ·intro w'; go_simp
                   with_reducible rfl
                  rotate_left
                  ·simp only [Act.put, List.setIfInBounds_toArray, List.set_cons_zero, List.set_cons_succ, i64_w, i32_w]
                   rfl
                  refine pure_ (i := 9) (N := some 49) (v := ?_) (a' := ?_) #[t_, t_, t_, t_, t_, t_, t_, t_, t_, t_, f_, f_, f_, f_, f_, f_, f_, f_, f_, f_, f_, f_, f_, f_] rfl rfl (any_of HT_.out (by kernel_rfl)) (fun _ _ _ h => h) (Or.inl ⟨by rfl, ?_⟩) ?_ ?_
                  rotate_left
                  ·intro w'; go_simp
                   with_reducible rfl
                  rotate_left
                  ·simp only [Act.put, List.setIfInBounds_toArray, List.set_cons_zero, List.set_cons_succ, i64_w, i32_w]
                   rfl
                  refine pure_ (i := 10) (N := some 50) (v := ?_) (a' := ?_) #[t_, t_, t_, t_, t_, t_, t_, t_, t_, t_, t_, f_, f_, f_, f_, f_, f_, f_, f_, f_, f_, f_, f_, f_] rfl rfl (any_of HT_.out (by kernel_rfl)) (fun _ _ _ h => h) (Or.inl ⟨by rfl, ?_⟩) ?_ ?_
                  rotate_left
                  ·intro w'; go_simp
                   with_reducible rfl
                  rotate_left
                  ·simp only [Act.put, List.setIfInBounds_toArray, List.set_cons_zero, List.set_cons_succ, i64_w, i32_w]
                   rfl
                  refine pure_ (i := 11) (N := some 51) (v := ?_) (a' := ?_) #[t_, t_, t_, t_, t_, t_, t_, t_, t_, t_, t_, t_, f_, f_, f_, f_, f_, f_, f_, f_, f_, f_, f_, f_] rfl rfl (any_of HT_.out (by kernel_rfl)) (fun _ _ _ h => h) (Or.inl ⟨by rfl, ?_⟩) ?_ ?_
                  rotate_left
                  ·intro w'; go_simp
                   with_reducible rfl
                  rotate_left
                  ·simp only [Act.put, List.setIfInBounds_toArray, List.set_cons_zero, List.set_cons_succ, i64_w, i32_w]
                   rfl
                  refine pure_ (i := 13) (N := some 53) (v := ?_) (a' := ?_) #[t_, t_, t_, t_, t_, t_, t_, t_, t_, t_, t_, t_, f_, t_, f_, f_, f_, f_, f_, f_, f_, f_, f_, f_] rfl rfl (any_of HT_.out (by kernel_rfl)) (fun _ _ _ h => h) (Or.inl ⟨by rfl, ?_⟩) ?_ ?_
                  rotate_left
                  ·intro w'; go_simp
                   with_reducible rfl
                  rotate_left
                  ·simp only [Act.put, List.setIfInBounds_toArray, List.set_cons_zero, List.set_cons_succ, i64_w, i32_w]
                   rfl
                  refine pure_ (i := 14) (N := some 54) (v := ?_) (a' := ?_) #[t_, t_, t_, t_, t_, t_, t_, t_, t_, t_, t_, t_, f_, t_, t_, f_, f_, f_, f_, f_, f_, f_, f_, f_] rfl rfl (any_of HT_.out (by kernel_rfl)) (fun _ _ _ h => h) (Or.inl ⟨by rfl, ?_⟩) ?_ ?_
                  rotate_left
                  ·intro w'; go_simp
                   with_reducible rfl
                  rotate_left
                  ·simp only [Act.put, List.setIfInBounds_toArray, List.set_cons_zero, List.set_cons_succ, i64_w, i32_w]
                   rfl
                  refine pure_ (i := 15) (N := some 55) (v := ?_) (a' := ?_) #[t_, t_, t_, t_, t_, t_, t_, t_, t_, t_, t_, t_, f_, t_, t_, t_, f_, f_, f_, f_, f_, f_, f_, f_] rfl rfl (any_of HT_.out (by kernel_rfl)) (fun _ _ _ h => h) (Or.inl ⟨by rfl, ?_⟩) ?_ ?_
                  rotate_left
                  ·intro w'; go_simp
                   with_reducible rfl
                  rotate_left
                  ·simp only [Act.put, List.setIfInBounds_toArray, List.set_cons_zero, List.set_cons_succ, i64_w, i32_w]
                   rfl
                  refine pure_ (i := 16) (N := some 56) (v := ?_) (a' := ?_) #[t_, t_, t_, t_, t_, t_, t_, t_, t_, t_, t_, t_, f_, t_, t_, t_, t_, f_, f_, f_, f_, f_, f_, f_] rfl rfl (any_of HT_.out (by kernel_rfl)) (fun _ _ _ h => h) (Or.inl ⟨by rfl, ?_⟩) ?_ ?_
                  rotate_left
                  ·intro w'; go_simp
                   with_reducible rfl
                  rotate_left
                  ·simp only [Act.put, List.setIfInBounds_toArray, List.set_cons_zero, List.set_cons_succ, i64_w, i32_w]
                   rfl
                  refine pure_ (i := 17) (N := some 57) (v := ?_) (a' := ?_) #[t_, t_, t_, t_, t_, t_, t_, t_, t_, t_, t_, t_, f_, t_, t_, t_, t_, t_, f_, f_, f_, f_, f_, f_] rfl rfl (any_of HT_.out (by kernel_rfl)) (fun _ _ _ h => h) (Or.inl ⟨by rfl, ?_⟩) ?_ ?_
                  rotate_left
                  ·intro w'; go_simp
                   with_reducible rfl
                  rotate_left
                  ·simp only [Act.put, List.setIfInBounds_toArray, List.set_cons_zero, List.set_cons_succ, i64_w, i32_w]
                   rfl
                  refine pure_ (i := 18) (N := some 58) (v := ?_) (a' := ?_) #[t_, t_, t_, t_, t_, t_, t_, t_, t_, t_, t_, t_, f_, t_, t_, t_, t_, t_, t_, f_, f_, f_, f_, f_] rfl rfl (any_of HT_.out (by kernel_rfl)) (fun _ _ _ h => h) (Or.inl ⟨by rfl, ?_⟩) ?_ ?_
                  rotate_left
                  ·intro w'; go_simp
                   with_reducible rfl
                  rotate_left
                  ·simp only [Act.put, List.setIfInBounds_toArray, List.set_cons_zero, List.set_cons_succ, i64_w, i32_w]
                   rfl
                  refine pure_ (i := 19) (N := some 59) (v := ?_) (a' := ?_) #[t_, t_, t_, t_, t_, t_, t_, t_, t_, t_, t_, t_, f_, t_, t_, t_, t_, t_, t_, t_, f_, f_, f_, f_] rfl rfl (any_of HT_.out (by kernel_rfl)) (fun _ _ _ h => h) (Or.inl ⟨by rfl, ?_⟩) ?_ ?_
                  rotate_left
                  ·intro w'; go_simp
                   with_reducible rfl
                  rotate_left
                  ·simp only [Act.put, List.setIfInBounds_toArray, List.set_cons_zero, List.set_cons_succ, i64_w, i32_w]
                   rfl
                  refine one_ (i := 12) (N := some 52) #[t_, t_, t_, t_, t_, t_, t_, t_, t_, t_, t_, t_, t_, t_, t_, t_, t_, t_, t_, t_, f_, f_, f_, f_] rfl rfl (one_of HT_.out (by kernel_rfl)) (by decide) (fun K hK => ?_); refine goes_ Try.func78 (by kernel_rfl) rfl #[.slice A34 (l0.drop ((ji19) : Int).toNat).length (c0 - (ji19).toNat), .slice A35 (l1.drop (x6_1 : Int).toNat).length (c1 - x6_1.toNat)] (by rfl) rfl rfl (by (try simp only [List.map_toArray, List.map_cons, List.map_nil]); first | done | (rw [show (l0.drop ((ji19) : Int).toNat).length = (l0.length - (ji19).toNat) from List.length_drop] <;> rfl) | (rw [show (l1.drop (x6_1 : Int).toNat).length = (l1.length - x6_1.toNat) from List.length_drop] <;> rfl) | (simp only [hji19]; rfl) | rfl | (simp only [List.length_drop, List.length_take]; rfl)) ?_
                  with_reducible refine (impl_lcs.calls kj5 _ _ (l0.drop ((ji19) : Int).toNat) _ _ (l1.drop (x6_1 : Int).toNat) t259 _ ?side1 ?side2 ?side3 ?side4 A24.out).mono ?_
                  (case side1 => repeat (first | exact (Kd.C_below HR257.out HB.out) | (with_reducible refine Kd.C_alloc ?_ _) | (with_reducible refine Kd.C_drewN ?_ _) | (with_reducible refine Kd.C_drew ?_)))
                  (case side2 => exact HC257.out)
                  (case side3 => repeat (first | exact (Kd.C_below HR258.out HB.out) | (with_reducible refine Kd.C_alloc ?_ _) | (with_reducible refine Kd.C_drewN ?_ _) | (with_reducible refine Kd.C_drew ?_)))
                  (case side4 => exact HC258.out)
                  rintro e w38 ⟨rfl, hb⟩; refine ⟨_, rfl, ?_⟩; have n0_ := Aside0.mk (Kd.R_below (by (with_reducible repeat (first | apply Kd.R_alloc | apply Kd.R_drewN | apply Kd.R_drew)); exact HO_5.out) hb); have n1_ := Aside0.mk (below_step (by repeat (first | (with_reducible first | exact HB.out | apply below_alloc | apply pw_below_drewN | apply below_drew1) | exact HB.out)) hb); clear HO_5; clear HB; have HO_5 := n0_; have HB := n1_; clear n0_ n1_
                  (try clear hb)
                  (try clear hb2)
                  (try clear hk)
                  (try clear hi)
                  refine hK.out _ _ trivial (fun hHeld => ?_); clear hK K; refine norm_ (a' := ?_) ?_ ?_
                  rotate_left
                  ·show Act.put _ (some 52) _ = _
                   simp only [Act.put, List.setIfInBounds_toArray, List.set_cons_zero, List.set_cons_succ, i64_w, i32_w]
                   rfl
                  refine one_ (i := 20) (N := some 60) #[t_, t_, t_, t_, t_, t_, t_, t_, t_, t_, t_, t_, t_, t_, t_, t_, t_, t_, t_, t_, t_, f_, f_, f_] rfl rfl (one_of HT_.out (by kernel_rfl)) (by decide) (fun K hK => ?_); refine goes_ Try.func78 (by kernel_rfl) rfl #[.slice A36 (l0.drop (x7_1 : Int).toNat).length (c0 - x7_1.toNat), .slice A37 (l1.drop ((ji27) : Int).toNat).length (c1 - (ji27).toNat)] (by rfl) rfl rfl (by (try simp only [List.map_toArray, List.map_cons, List.map_nil]); first | done | (rw [show (l0.drop (x7_1 : Int).toNat).length = (l0.length - x7_1.toNat) from List.length_drop] <;> rfl) | (rw [show (l1.drop ((ji27) : Int).toNat).length = (l1.length - (ji27).toNat) from List.length_drop] <;> rfl) | (simp only [hji27]; rfl) | rfl | (simp only [List.length_drop, List.length_take]; rfl)) ?_
                  with_reducible refine (impl_lcs.calls kj5 _ _ (l0.drop (x7_1 : Int).toNat) _ _ (l1.drop ((ji27) : Int).toNat) t262 _ ?side1 ?side2 ?side3 ?side4 A30.out).mono ?_
                  (case side1 => repeat (first | exact (Kd.C_below HR260.out HB.out) | (with_reducible refine Kd.C_alloc ?_ _) | (with_reducible refine Kd.C_drewN ?_ _) | (with_reducible refine Kd.C_drew ?_)))
                  (case side2 => exact HC260.out)
                  (case side3 => repeat (first | exact (Kd.C_below HR261.out HB.out) | (with_reducible refine Kd.C_alloc ?_ _) | (with_reducible refine Kd.C_drewN ?_ _) | (with_reducible refine Kd.C_drew ?_)))
                  (case side4 => exact HC261.out)
                  rintro e w39 ⟨rfl, hb⟩; refine ⟨_, rfl, ?_⟩; have n0_ := Aside0.mk (Kd.R_below (by (with_reducible repeat (first | apply Kd.R_alloc | apply Kd.R_drewN | apply Kd.R_drew)); exact HO_5.out) hb); have n1_ := Aside0.mk (below_step (by repeat (first | (with_reducible first | exact HB.out | apply below_alloc | apply pw_below_drewN | apply below_drew1) | exact HB.out)) hb); clear HO_5; clear HB; have HO_5 := n0_; have HB := n1_; clear n0_ n1_
                  (try clear hb)
                  (try clear hb2)
                  (try clear hk)
                  (try clear hi)
                  refine hK.out _ _ trivial (fun hHeld => ?_); clear hK K; refine norm_ (a' := ?_) ?_ ?_
                  rotate_left
                  ·show Act.put _ (some 60) _ = _
                   simp only [Act.put, List.setIfInBounds_toArray, List.set_cons_zero, List.set_cons_succ, i64_w, i32_w]
                   rfl
                  refine pure_ (i := 21) (N := some 61) (v := ?_) (a' := ?_) #[t_, t_, t_, t_, t_, t_, t_, t_, t_, t_, t_, t_, t_, t_, t_, t_, t_, t_, t_, t_, t_, t_, f_, f_] rfl rfl (any_of HT_.out (by kernel_rfl)) (fun _ _ _ h => h) (Or.inl ⟨by rfl, ?_⟩) ?_ ?_
                  rotate_left
                  ·intro w'; go_simp
                   with_reducible rfl
                  rotate_left
                  ·simp only [Act.put, List.setIfInBounds_toArray, List.set_cons_zero, List.set_cons_succ, i64_w, i32_w]
                   rfl
                  refine pure_ (i := 22) (N := some 62) (v := ?_) (a' := ?_) #[t_, t_, t_, t_, t_, t_, t_, t_, t_, t_, t_, t_, t_, t_, t_, t_, t_, t_, t_, t_, t_, t_, t_, f_] rfl rfl (any_of HT_.out (by kernel_rfl)) (fun _ _ _ h => h) (Or.inl ⟨by rfl, ?_⟩) ?_ ?_
                  rotate_left
                  ·intro w'; go_simp
                   with_reducible rfl
                  rotate_left
                  ·simp only [Act.put, List.setIfInBounds_toArray, List.set_cons_zero, List.set_cons_succ, i64_w, i32_w]
                   rfl
                  refine pure_ (i := 23) (N := some 39) (v := ?_) (a' := ?_) #[t_, t_, t_, t_, t_, t_, t_, t_, t_, t_, t_, t_, t_, t_, t_, t_, t_, t_, t_, t_, t_, t_, t_, t_] rfl rfl (any_of HT_.out (by kernel_rfl)) (fun _ _ _ h => h) (Or.inl ⟨by rfl, ?_⟩) ?_ ?_
                  rotate_left
                  ·intro w'; go_simp
                   with_reducible rfl
                  rotate_left
                  ·simp only [Act.put, List.setIfInBounds_toArray, List.set_cons_zero, List.set_cons_succ, i64_w, i32_w]
                   rfl
                  refine done_ (done_of HT_.out (by kernel_rfl)) ?_; (try go_wp2_with (first | ((with_reducible refine gate_builtin (b := .append) (xs := #[.tmp 63, .tmp 64]) rfl ?_); at_builtin; refine Kd.R_append (Kd.int .i64) (w0 := w) w.heap.size rfl (.tmp 63) (.tmp 64) 80 3 (.int .i64 0) 8 rfl Try.underlying80 info3 rfl (by decide) (by omega) u5 x5_1 (-1) [.int .i64 (-1)] (fun _ => True) (fun _ => False) rfl rfl ?aP (fun _ hk => hk.elim) ?aF ?aO ?aB ?aS ?aL ?_; (case aP => exact rfl); (case aB => exact (by repeat (first | (with_reducible first | exact HB.out | apply below_alloc | apply pw_below_drewN | apply below_drew1) | exact HB.out))); (case aF => exact (fun _ _ => trivial)); (case aO => exact (by (with_reducible repeat (first | apply Kd.R_alloc | apply Kd.R_drewN | apply Kd.R_drew)); exact HO_5.out)); (case aS => exact (below_size (by repeat (first | (with_reducible first | exact HB.out | apply below_alloc | apply pw_below_drewN | apply below_drew1) | exact HB.out)))); (case aL => have := LMc32.out; omega); intro v264 w40 ho hb hg hat; rw [← Ny263.out] at ho; have n0_ := Aside0.mk (hb); have n1_ := Aside0.mk (ho); clear HB; clear HO_5; have HB := n0_; have HO265 := n1_; clear n0_ n1_; clear ho hb hg hat))); go_roundg kj5
                  case measure => have := HK1.out; have := HJ5.out; omega
                  case rel => exact ⟨(y263), (x6_1), (ji19), (by first | rfl | (simp; done) | (simp [*]; done)), (by first | rfl | (simp; done) | (simp only [← hji19] <;> (first | rfl | simp)) | (simp [*]; done)), H', ⟨by have := HK1.out; have := HJ5.out; omega⟩, ⟨by (with_reducible repeat (first | apply Kd.R_alloc | apply Kd.R_drewN | apply Kd.R_drew)); exact HO265.out⟩, ⟨by repeat (first | (with_reducible first | exact HB.out | apply below_alloc | apply pw_below_drewN | apply below_drew1) | exact HB.out)⟩⟩
                 ·rw [if_neg c32] at H; exact absurd H (by simp)
                ·rw [if_neg c31] at H; have c31b0 : decide (t262 ≤ t259) = false := decide_eq_false c31; clear c31; have H' := Aside0.mk H; clear H; (try go_wp2); have n0_ := Aside0.mk (Kd.R_drew HO_5.out); have n1_ := Aside0.mk (below_drew1 HB.out); clear HO_5; clear HB; have HO_5 := n0_; have HB := n1_; clear n0_ n1_; obtain ⟨i042, hi042, _, hsz42, _⟩ := info_parts info9; obtain ⟨A42, hcut42, hA42, hC42⟩ := print_drop_of (P := Try.prog) Value.string (⟨#[]⟩ : ByteArray) 23 9 .i64 Try.underlying23 hi042 hsz42 A0 c0 l0 (ji19) (of_decide_eq_true (by assumption)) (of_decide_eq_true (by assumption)) HC0.out; have HR257 := Aside0.mk (Kd.C_of_reads (h1 := fun _ => rfl) (hA42 _ (Kd.reads_of_C HR0.out))); have HC257 := Aside0.mk hC42; clear hA42 hC42 hi042 hsz42; obtain ⟨i043, hi043, _, hsz43, _⟩ := info_parts info9; obtain ⟨A43, hcut43, hA43, hC43⟩ := print_drop_of (P := Try.prog) Value.string (⟨#[]⟩ : ByteArray) 23 9 .i64 Try.underlying23 hi043 hsz43 A1 c1 l1 x6_1 (of_decide_eq_true (by assumption)) (of_decide_eq_true (by assumption)) HC1.out; have HR258 := Aside0.mk (Kd.C_of_reads (h1 := fun _ => rfl) (hA43 _ (Kd.reads_of_C HR1.out))); have HC258 := Aside0.mk hC43; clear hA43 hC43 hi043 hsz43; obtain ⟨i044, hi044, _, hsz44, _⟩ := info_parts info9; obtain ⟨A44, hcut44, hA44, hC44⟩ := print_drop_of (P := Try.prog) Value.string (⟨#[]⟩ : ByteArray) 23 9 .i64 Try.underlying23 hi044 hsz44 A0 c0 l0 x7_1 (of_decide_eq_true (by assumption)) (of_decide_eq_true (by assumption)) HC0.out; have HR260 := Aside0.mk (Kd.C_of_reads (h1 := fun _ => rfl) (hA44 _ (Kd.reads_of_C HR0.out))); have HC260 := Aside0.mk hC44; clear hA44 hC44 hi044 hsz44; obtain ⟨i045, hi045, _, hsz45, _⟩ := info_parts info9; obtain ⟨A45, hcut45, hA45, hC45⟩ := print_drop_of (P := Try.prog) Value.string (⟨#[]⟩ : ByteArray) 23 9 .i64 Try.underlying23 hi045 hsz45 A1 c1 l1 (ji27) (of_decide_eq_true (by assumption)) (of_decide_eq_true (by assumption)) HC1.out; have HR261 := Aside0.mk (Kd.C_of_reads (h1 := fun _ => rfl) (hA45 _ (Kd.reads_of_C HR1.out))); have HC261 := Aside0.mk hC45; clear hA45 hC45 hi045 hsz45; refine start_ (n := 24) (S := fun w' => True) (ds := []) #[f_, f_, f_, f_, f_, f_, f_, f_, f_, f_, f_, f_, f_, f_, f_, f_, f_, f_, f_, f_, f_, f_, f_, f_] (by kernel_rfl) rfl rfl trivial (fun hHeld => ?_); refine with_tabW impl_match.tab8 impl_match.bits8 (fun HT_ HW_ => ?_); generalize wc.drew = w41 at HO_5 HB HR257 HR258 HR260 HR261 hHeld ⊢; refine pure_ (i := 0) (N := some 40) (v := ?_) (a' := ?_) #[t_, f_, f_, f_, f_, f_, f_, f_, f_, f_, f_, f_, f_, f_, f_, f_, f_, f_, f_, f_, f_, f_, f_, f_] rfl rfl (any_of HT_.out (by kernel_rfl)) (fun _ _ _ h => h) (Or.inl ⟨by rfl, ?_⟩) ?_ ?_
                 rotate_left
                 ·intro w'; go_simp
                  with_reducible rfl
                 rotate_left
                 ·simp only [Act.put, List.setIfInBounds_toArray, List.set_cons_zero, List.set_cons_succ, i64_w, i32_w]
                  rfl
                 refine pure_ (i := 1) (N := some 41) (v := ?_) (a' := ?_) #[t_, t_, f_, f_, f_, f_, f_, f_, f_, f_, f_, f_, f_, f_, f_, f_, f_, f_, f_, f_, f_, f_, f_, f_] rfl rfl (any_of HT_.out (by kernel_rfl)) (fun _ _ _ h => h) (Or.inl ⟨by rfl, ?_⟩) ?_ ?_
                 rotate_left
                 ·intro w'; go_simp
                  with_reducible rfl
                 rotate_left
                 ·simp only [Act.put, List.setIfInBounds_toArray, List.set_cons_zero, List.set_cons_succ, i64_w, i32_w]
                  rfl
                 refine pure_ (i := 2) (N := some 42) (v := ?_) (a' := ?_) #[t_, t_, t_, f_, f_, f_, f_, f_, f_, f_, f_, f_, f_, f_, f_, f_, f_, f_, f_, f_, f_, f_, f_, f_] rfl rfl (any_of HT_.out (by kernel_rfl)) (fun _ _ _ h => h) (Or.inl ⟨by rfl, ?_⟩) ?_ ?_
                 rotate_left
                 ·intro w'; go_simp
                  with_reducible rfl
                 rotate_left
                 ·simp only [Act.put, List.setIfInBounds_toArray, List.set_cons_zero, List.set_cons_succ, i64_w, i32_w]
                  rfl
                 refine pure_ (i := 3) (N := some 43) (v := ?_) (a' := ?_) #[t_, t_, t_, t_, f_, f_, f_, f_, f_, f_, f_, f_, f_, f_, f_, f_, f_, f_, f_, f_, f_, f_, f_, f_] rfl rfl (any_of HT_.out (by kernel_rfl)) (fun _ _ _ h => h) (Or.inl ⟨by rfl, ?_⟩) ?_ ?_
                 rotate_left
                 ·intro w'; go_simp
                  with_reducible rfl
                 rotate_left
                 ·simp only [Act.put, List.setIfInBounds_toArray, List.set_cons_zero, List.set_cons_succ, i64_w, i32_w]
                  rfl
                 refine pure_ (i := 4) (N := some 44) (v := ?_) (a' := ?_) #[t_, t_, t_, t_, t_, f_, f_, f_, f_, f_, f_, f_, f_, f_, f_, f_, f_, f_, f_, f_, f_, f_, f_, f_] rfl rfl (any_of HT_.out (by kernel_rfl)) (fun _ _ _ h => h) (Or.inl ⟨by rfl, ?_⟩) ?_ ?_
                 rotate_left
                 ·intro w'; go_simp
                  with_reducible rfl
                 rotate_left
                 ·simp only [Act.put, List.setIfInBounds_toArray, List.set_cons_zero, List.set_cons_succ, i64_w, i32_w]
                  rfl
                 refine pure_ (i := 5) (N := some 45) (v := ?_) (a' := ?_) #[t_, t_, t_, t_, t_, t_, f_, f_, f_, f_, f_, f_, f_, f_, f_, f_, f_, f_, f_, f_, f_, f_, f_, f_] rfl rfl (any_of HT_.out (by kernel_rfl)) (fun _ _ _ h => h) (Or.inl ⟨by rfl, ?_⟩) ?_ ?_
                 rotate_left
                 ·intro w'; go_simp
                  with_reducible rfl
                 rotate_left
                 ·simp only [Act.put, List.setIfInBounds_toArray, List.set_cons_zero, List.set_cons_succ, i64_w, i32_w]
                  rfl
                 refine pure_ (i := 6) (N := some 46) (v := ?_) (a' := ?_) #[t_, t_, t_, t_, t_, t_, t_, f_, f_, f_, f_, f_, f_, f_, f_, f_, f_, f_, f_, f_, f_, f_, f_, f_] rfl rfl (any_of HT_.out (by kernel_rfl)) (fun _ _ _ h => h) (Or.inl ⟨by rfl, ?_⟩) ?_ ?_
                 rotate_left
                 ·intro w'; go_simp
                  with_reducible rfl
                 rotate_left
                 ·simp only [Act.put, List.setIfInBounds_toArray, List.set_cons_zero, List.set_cons_succ, i64_w, i32_w]
                  rfl
                 refine pure_ (i := 7) (N := some 47) (v := ?_) (a' := ?_) #[t_, t_, t_, t_, t_, t_, t_, t_, f_, f_, f_, f_, f_, f_, f_, f_, f_, f_, f_, f_, f_, f_, f_, f_] rfl rfl (any_of HT_.out (by kernel_rfl)) (fun _ _ _ h => h) (Or.inl ⟨by rfl, ?_⟩) ?_ ?_
                 rotate_left
                 ·intro w'; go_simp
                  with_reducible rfl
                 rotate_left
                 ·simp only [Act.put, List.setIfInBounds_toArray, List.set_cons_zero, List.set_cons_succ, i64_w, i32_w]
                  rfl
                 refine pure_ (i := 8) (N := some 48) (v := ?_) (a' := ?_) #[t_, t_, t_, t_, t_, t_, t_, t_, t_, f_, f_, f_, f_, f_, f_, f_, f_, f_, f_, f_, f_, f_, f_, f_] rfl rfl (any_of HT_.out (by kernel_rfl)) (fun _ _ _ h => h) (Or.inl ⟨by rfl, ?_⟩) ?_ ?_
                 rotate_left
                 ·intro w'; go_simp
                  with_reducible rfl
                 rotate_left
                 ·simp only [Act.put, List.setIfInBounds_toArray, List.set_cons_zero, List.set_cons_succ, i64_w, i32_w]
                  rfl
                 refine pure_ (i := 9) (N := some 49) (v := ?_) (a' := ?_) #[t_, t_, t_, t_, t_, t_, t_, t_, t_, t_, f_, f_, f_, f_, f_, f_, f_, f_, f_, f_, f_, f_, f_, f_] rfl rfl (any_of HT_.out (by kernel_rfl)) (fun _ _ _ h => h) (Or.inl ⟨by rfl, ?_⟩) ?_ ?_
                 rotate_left
                 ·intro w'; go_simp
                  with_reducible rfl
                 rotate_left
                 ·simp only [Act.put, List.setIfInBounds_toArray, List.set_cons_zero, List.set_cons_succ, i64_w, i32_w]
                  rfl
                 refine pure_ (i := 10) (N := some 50) (v := ?_) (a' := ?_) #[t_, t_, t_, t_, t_, t_, t_, t_, t_, t_, t_, f_, f_, f_, f_, f_, f_, f_, f_, f_, f_, f_, f_, f_] rfl rfl (any_of HT_.out (by kernel_rfl)) (fun _ _ _ h => h) (Or.inl ⟨by rfl, ?_⟩) ?_ ?_
                 rotate_left
                 ·intro w'; go_simp
                  with_reducible rfl
                 rotate_left
                 ·simp only [Act.put, List.setIfInBounds_toArray, List.set_cons_zero, List.set_cons_succ, i64_w, i32_w]
                  rfl
                 refine pure_ (i := 11) (N := some 51) (v := ?_) (a' := ?_) #[t_, t_, t_, t_, t_, t_, t_, t_, t_, t_, t_, t_, f_, f_, f_, f_, f_, f_, f_, f_, f_, f_, f_, f_] rfl rfl (any_of HT_.out (by kernel_rfl)) (fun _ _ _ h => h) (Or.inl ⟨by rfl, ?_⟩) ?_ ?_
                 rotate_left
                 ·intro w'; go_simp
                  with_reducible rfl
                 rotate_left
                 ·simp only [Act.put, List.setIfInBounds_toArray, List.set_cons_zero, List.set_cons_succ, i64_w, i32_w]
                  rfl
                 refine pure_ (i := 13) (N := some 53) (v := ?_) (a' := ?_) #[t_, t_, t_, t_, t_, t_, t_, t_, t_, t_, t_, t_, f_, t_, f_, f_, f_, f_, f_, f_, f_, f_, f_, f_] rfl rfl (any_of HT_.out (by kernel_rfl)) (fun _ _ _ h => h) (Or.inl ⟨by rfl, ?_⟩) ?_ ?_
                 rotate_left
                 ·intro w'; go_simp
                  with_reducible rfl
                 rotate_left
                 ·simp only [Act.put, List.setIfInBounds_toArray, List.set_cons_zero, List.set_cons_succ, i64_w, i32_w]
                  rfl
                 refine pure_ (i := 14) (N := some 54) (v := ?_) (a' := ?_) #[t_, t_, t_, t_, t_, t_, t_, t_, t_, t_, t_, t_, f_, t_, t_, f_, f_, f_, f_, f_, f_, f_, f_, f_] rfl rfl (any_of HT_.out (by kernel_rfl)) (fun _ _ _ h => h) (Or.inl ⟨by rfl, ?_⟩) ?_ ?_
                 rotate_left
                 ·intro w'; go_simp
                  with_reducible rfl
                 rotate_left
                 ·simp only [Act.put, List.setIfInBounds_toArray, List.set_cons_zero, List.set_cons_succ, i64_w, i32_w]
                  rfl
                 refine pure_ (i := 15) (N := some 55) (v := ?_) (a' := ?_) #[t_, t_, t_, t_, t_, t_, t_, t_, t_, t_, t_, t_, f_, t_, t_, t_, f_, f_, f_, f_, f_, f_, f_, f_] rfl rfl (any_of HT_.out (by kernel_rfl)) (fun _ _ _ h => h) (Or.inl ⟨by rfl, ?_⟩) ?_ ?_
                 rotate_left
                 ·intro w'; go_simp
                  with_reducible rfl
                 rotate_left
                 ·simp only [Act.put, List.setIfInBounds_toArray, List.set_cons_zero, List.set_cons_succ, i64_w, i32_w]
                  rfl
                 refine pure_ (i := 16) (N := some 56) (v := ?_) (a' := ?_) #[t_, t_, t_, t_, t_, t_, t_, t_, t_, t_, t_, t_, f_, t_, t_, t_, t_, f_, f_, f_, f_, f_, f_, f_] rfl rfl (any_of HT_.out (by kernel_rfl)) (fun _ _ _ h => h) (Or.inl ⟨by rfl, ?_⟩) ?_ ?_
                 rotate_left
                 ·intro w'; go_simp
                  with_reducible rfl
                 rotate_left
                 ·simp only [Act.put, List.setIfInBounds_toArray, List.set_cons_zero, List.set_cons_succ, i64_w, i32_w]
                  rfl
                 refine pure_ (i := 17) (N := some 57) (v := ?_) (a' := ?_) #[t_, t_, t_, t_, t_, t_, t_, t_, t_, t_, t_, t_, f_, t_, t_, t_, t_, t_, f_, f_, f_, f_, f_, f_] rfl rfl (any_of HT_.out (by kernel_rfl)) (fun _ _ _ h => h) (Or.inl ⟨by rfl, ?_⟩) ?_ ?_
                 rotate_left
                 ·intro w'; go_simp
                  with_reducible rfl
                 rotate_left
                 ·simp only [Act.put, List.setIfInBounds_toArray, List.set_cons_zero, List.set_cons_succ, i64_w, i32_w]
                  rfl
                 refine pure_ (i := 18) (N := some 58) (v := ?_) (a' := ?_) #[t_, t_, t_, t_, t_, t_, t_, t_, t_, t_, t_, t_, f_, t_, t_, t_, t_, t_, t_, f_, f_, f_, f_, f_] rfl rfl (any_of HT_.out (by kernel_rfl)) (fun _ _ _ h => h) (Or.inl ⟨by rfl, ?_⟩) ?_ ?_
                 rotate_left
                 ·intro w'; go_simp
                  with_reducible rfl
                 rotate_left
                 ·simp only [Act.put, List.setIfInBounds_toArray, List.set_cons_zero, List.set_cons_succ, i64_w, i32_w]
                  rfl
                 refine pure_ (i := 19) (N := some 59) (v := ?_) (a' := ?_) #[t_, t_, t_, t_, t_, t_, t_, t_, t_, t_, t_, t_, f_, t_, t_, t_, t_, t_, t_, t_, f_, f_, f_, f_] rfl rfl (any_of HT_.out (by kernel_rfl)) (fun _ _ _ h => h) (Or.inl ⟨by rfl, ?_⟩) ?_ ?_
                 rotate_left
                 ·intro w'; go_simp
                  with_reducible rfl
                 rotate_left
                 ·simp only [Act.put, List.setIfInBounds_toArray, List.set_cons_zero, List.set_cons_succ, i64_w, i32_w]
                  rfl
                 refine one_ (i := 12) (N := some 52) #[t_, t_, t_, t_, t_, t_, t_, t_, t_, t_, t_, t_, t_, t_, t_, t_, t_, t_, t_, t_, f_, f_, f_, f_] rfl rfl (one_of HT_.out (by kernel_rfl)) (by decide) (fun K hK => ?_); refine goes_ Try.func78 (by kernel_rfl) rfl #[.slice A42 (l0.drop ((ji19) : Int).toNat).length (c0 - (ji19).toNat), .slice A43 (l1.drop (x6_1 : Int).toNat).length (c1 - x6_1.toNat)] (by rfl) rfl rfl (by (try simp only [List.map_toArray, List.map_cons, List.map_nil]); first | done | (rw [show (l0.drop ((ji19) : Int).toNat).length = (l0.length - (ji19).toNat) from List.length_drop] <;> rfl) | (rw [show (l1.drop (x6_1 : Int).toNat).length = (l1.length - x6_1.toNat) from List.length_drop] <;> rfl) | (simp only [hji19]; rfl) | rfl | (simp only [List.length_drop, List.length_take]; rfl)) ?_
                 with_reducible refine (impl_lcs.calls kj5 _ _ (l0.drop ((ji19) : Int).toNat) _ _ (l1.drop (x6_1 : Int).toNat) t259 _ ?side1 ?side2 ?side3 ?side4 A24.out).mono ?_
                 (case side1 => repeat (first | exact (Kd.C_below HR257.out HB.out) | (with_reducible refine Kd.C_alloc ?_ _) | (with_reducible refine Kd.C_drewN ?_ _) | (with_reducible refine Kd.C_drew ?_)))
                 (case side2 => exact HC257.out)
                 (case side3 => repeat (first | exact (Kd.C_below HR258.out HB.out) | (with_reducible refine Kd.C_alloc ?_ _) | (with_reducible refine Kd.C_drewN ?_ _) | (with_reducible refine Kd.C_drew ?_)))
                 (case side4 => exact HC258.out)
                 rintro e w46 ⟨rfl, hb⟩; refine ⟨_, rfl, ?_⟩; have n0_ := Aside0.mk (Kd.R_below (by (with_reducible repeat (first | apply Kd.R_alloc | apply Kd.R_drewN | apply Kd.R_drew)); exact HO_5.out) hb); have n1_ := Aside0.mk (below_step (by repeat (first | (with_reducible first | exact HB.out | apply below_alloc | apply pw_below_drewN | apply below_drew1) | exact HB.out)) hb); clear HO_5; clear HB; have HO_5 := n0_; have HB := n1_; clear n0_ n1_
                 (try clear hb)
                 (try clear hb2)
                 (try clear hk)
                 (try clear hi)
                 refine hK.out _ _ trivial (fun hHeld => ?_); clear hK K; refine norm_ (a' := ?_) ?_ ?_
                 rotate_left
                 ·show Act.put _ (some 52) _ = _
                  simp only [Act.put, List.setIfInBounds_toArray, List.set_cons_zero, List.set_cons_succ, i64_w, i32_w]
                  rfl
                 refine one_ (i := 20) (N := some 60) #[t_, t_, t_, t_, t_, t_, t_, t_, t_, t_, t_, t_, t_, t_, t_, t_, t_, t_, t_, t_, t_, f_, f_, f_] rfl rfl (one_of HT_.out (by kernel_rfl)) (by decide) (fun K hK => ?_); refine goes_ Try.func78 (by kernel_rfl) rfl #[.slice A44 (l0.drop (x7_1 : Int).toNat).length (c0 - x7_1.toNat), .slice A45 (l1.drop ((ji27) : Int).toNat).length (c1 - (ji27).toNat)] (by rfl) rfl rfl (by (try simp only [List.map_toArray, List.map_cons, List.map_nil]); first | done | (rw [show (l0.drop (x7_1 : Int).toNat).length = (l0.length - x7_1.toNat) from List.length_drop] <;> rfl) | (rw [show (l1.drop ((ji27) : Int).toNat).length = (l1.length - (ji27).toNat) from List.length_drop] <;> rfl) | (simp only [hji27]; rfl) | rfl | (simp only [List.length_drop, List.length_take]; rfl)) ?_
                 with_reducible refine (impl_lcs.calls kj5 _ _ (l0.drop (x7_1 : Int).toNat) _ _ (l1.drop ((ji27) : Int).toNat) t262 _ ?side1 ?side2 ?side3 ?side4 A30.out).mono ?_
                 (case side1 => repeat (first | exact (Kd.C_below HR260.out HB.out) | (with_reducible refine Kd.C_alloc ?_ _) | (with_reducible refine Kd.C_drewN ?_ _) | (with_reducible refine Kd.C_drew ?_)))
                 (case side2 => exact HC260.out)
                 (case side3 => repeat (first | exact (Kd.C_below HR261.out HB.out) | (with_reducible refine Kd.C_alloc ?_ _) | (with_reducible refine Kd.C_drewN ?_ _) | (with_reducible refine Kd.C_drew ?_)))
                 (case side4 => exact HC261.out)
                 rintro e w47 ⟨rfl, hb⟩; refine ⟨_, rfl, ?_⟩; have n0_ := Aside0.mk (Kd.R_below (by (with_reducible repeat (first | apply Kd.R_alloc | apply Kd.R_drewN | apply Kd.R_drew)); exact HO_5.out) hb); have n1_ := Aside0.mk (below_step (by repeat (first | (with_reducible first | exact HB.out | apply below_alloc | apply pw_below_drewN | apply below_drew1) | exact HB.out)) hb); clear HO_5; clear HB; have HO_5 := n0_; have HB := n1_; clear n0_ n1_
                 (try clear hb)
                 (try clear hb2)
                 (try clear hk)
                 (try clear hi)
                 refine hK.out _ _ trivial (fun hHeld => ?_); clear hK K; refine norm_ (a' := ?_) ?_ ?_
                 rotate_left
                 ·show Act.put _ (some 60) _ = _
                  simp only [Act.put, List.setIfInBounds_toArray, List.set_cons_zero, List.set_cons_succ, i64_w, i32_w]
                  rfl
                 refine pure_ (i := 21) (N := some 61) (v := ?_) (a' := ?_) #[t_, t_, t_, t_, t_, t_, t_, t_, t_, t_, t_, t_, t_, t_, t_, t_, t_, t_, t_, t_, t_, t_, f_, f_] rfl rfl (any_of HT_.out (by kernel_rfl)) (fun _ _ _ h => h) (Or.inl ⟨by rfl, ?_⟩) ?_ ?_
                 rotate_left
                 ·intro w'; go_simp
                  with_reducible rfl
                 rotate_left
                 ·simp only [Act.put, List.setIfInBounds_toArray, List.set_cons_zero, List.set_cons_succ, i64_w, i32_w]
                  rfl
                 refine pure_ (i := 22) (N := some 62) (v := ?_) (a' := ?_) #[t_, t_, t_, t_, t_, t_, t_, t_, t_, t_, t_, t_, t_, t_, t_, t_, t_, t_, t_, t_, t_, t_, t_, f_] rfl rfl (any_of HT_.out (by kernel_rfl)) (fun _ _ _ h => h) (Or.inl ⟨by rfl, ?_⟩) ?_ ?_
                 rotate_left
                 ·intro w'; go_simp
                  with_reducible rfl
                 rotate_left
                 ·simp only [Act.put, List.setIfInBounds_toArray, List.set_cons_zero, List.set_cons_succ, i64_w, i32_w]
                  rfl
                 refine pure_ (i := 23) (N := some 39) (v := ?_) (a' := ?_) #[t_, t_, t_, t_, t_, t_, t_, t_, t_, t_, t_, t_, t_, t_, t_, t_, t_, t_, t_, t_, t_, t_, t_, t_] rfl rfl (any_of HT_.out (by kernel_rfl)) (fun _ _ _ h => h) (Or.inl ⟨by rfl, ?_⟩) ?_ ?_
                 rotate_left
                 ·intro w'; go_simp
                  with_reducible rfl
                 rotate_left
                 ·simp only [Act.put, List.setIfInBounds_toArray, List.set_cons_zero, List.set_cons_succ, i64_w, i32_w]
                  rfl
                 refine done_ (done_of HT_.out (by kernel_rfl)) ?_; (try go_wp2); go_roundg kj5
                 case measure => have := HK1.out; have := HJ5.out; omega
                 case rel => exact ⟨(x5_1), (ji27), (x7_1), (by first | rfl | (simp; done) | (simp only [← hji27] <;> (first | rfl | simp)) | (simp [*]; done)), (by first | rfl | (simp; done) | (simp [*]; done)), H', ⟨by have := HK1.out; have := HJ5.out; omega⟩, ⟨by (with_reducible repeat (first | apply Kd.R_alloc | apply Kd.R_drewN | apply Kd.R_drew)); exact HO_5.out⟩, ⟨by repeat (first | (with_reducible first | exact HB.out | apply below_alloc | apply pw_below_drewN | apply below_drew1) | exact HB.out)⟩⟩
               ·rw [if_neg c29] at H; exact absurd H (by simp)
              ·rw [if_neg c28] at H; exact absurd H (by simp)
             ·rw [if_neg c26] at H; exact absurd H (by simp)
            ·rw [if_neg c25] at H; exact absurd H (by simp)
           ·rw [if_neg c23] at H; exact absurd H (by simp)
          ·rw [if_neg c22] at H; exact absurd H (by simp)
         ·rw [if_neg c21] at H; exact absurd H (by simp)
        ·rw [if_neg c20] at H; exact absurd H (by simp)
   ·rw [if_neg c5] at H; have c5b0 : decide (x7_1 < (l0.length : Int)) = false := decide_eq_false c5; clear c5; obtain rfl := Option.some.inj H; go_wp2; go_ret; exact ⟨_, by first | rfl | (simp <;> rfl) | (simp [*] <;> rfl), by (with_reducible repeat (first | apply Kd.R_alloc | apply Kd.R_drewN | apply Kd.R_drew)); exact HO_5.out, by repeat (first | (with_reducible first | exact HB.out | apply below_alloc | apply pw_below_drewN | apply below_drew1) | exact HB.out)⟩
end Go.Proofs.Ytfpdkeolecmepaa.Q
end
section
namespace Go.Proofs.Ytfpdkeolecmepaa.Q
open Go.RowKit Go.Proofs.YtfpdkeolecmepaaW.PrintWords Go.Proofs.YtfpdkeolecmepaaW.PrintLast Go.Proofs.YtfpdkeolecmepaaW.PrintMore
attribute [local go_sem] max2_int min2_int max_two min_two max_three min_three max_four min_four   -- for this text's walks alone
set_option linter.unusedVariables false
set_option linter.unusedSimpArgs false
def slices_Equal_string_string.l0 : Nat → List ByteArray → List ByteArray → Int → Int → Option (Bool)
 | 0, _, _, _, _ => none
 | k + 1, x0, x1, x12, x13 => if x13 < x12 then (if 0 ≤ x13 then (if x13 < (x0.length : Int) then (if x13 < (x1.length : Int) then (if (rdOf ByteArray.empty x0 x13).toList = (rdOf ByteArray.empty x1 x13).toList then (slices_Equal_string_string.l0 k x0 x1 x12 (wrap64 (x13 + 1))) else (some false)) else (none)) else (none)) else (none)) else (some true)
def slices_Equal_string_string.f (k : Nat) (l0 : List ByteArray) (l1 : List ByteArray) : Option (Bool) := if (l0.length : Int) = (l1.length : Int) then (slices_Equal_string_string.l0 k l0 l1 (l0.length : Int) 0) else (some false)
set_option maxHeartbeats 8000000 in
set_option maxRecDepth 100000 in
theorem slices_Equal_string_string.calls (k : Nat) (A0 : Option Addr) (c0 : Nat) (l0 : List ByteArray) (A1 : Option Addr) (c1 : Nat) (l1 : List ByteArray) (r : Bool) (w : World) (hr0 : Kd.C Kd.string w A0 l0.length l0) (hc0 : l0.length ≤ c0) (hr1 : Kd.C Kd.string w A1 l1.length l1) (hc1 : l1.length ≤ c1) (h : slices_Equal_string_string.f k l0 l1 = some r) :
 Calls Try.prog 62 #[.slice A0 l0.length c0, .slice A1 l1.length c1] w fun e w' => e = .returned (.bool r) ∧ Drawn0 w w' := by
 have HR0 := Aside0.mk hr0; have HC0 := Aside0.mk hc0; clear hr0 hc0; have HR1 := Aside0.mk hr1; have HC1 := Aside0.mk hc1; clear hr1 hc1; have H : (if (l0.length : Int) = (l1.length : Int) then (slices_Equal_string_string.l0 k l0 l1 (l0.length : Int) 0) else (some false)) = some r := h; clear h; by_cases c3 : (l0.length : Int) = (l1.length : Int)
 ·rw [if_pos c3] at H; have c3b0 : ((l0.length : Int) == (l1.length : Int)) = true := beq_iff_eq.mpr c3; have c3b1 : ((l0.length : Int) != (l1.length : Int)) = false := bne_eq_false_iff_eq.mpr c3; (have c3b2 : (l0.length == l1.length) = true := by first | simpa using c3 | (simp at c3 ⊢; omega)); clear c3; have H' := Aside0.mk H; clear H; go_enter Try.func62, Try.ntmps62; go_wp2; (repeat (go_quiet (fail); try go_wp2)); go_loopg [13] k (fun kq v13 w' => ∃ (x13_1 : Int), v13 = .int .i64 x13_1 ∧ Aside0 (slices_Equal_string_string.l0 kq l0 l1 (l0.length : Int) x13_1 = some r) ∧ Aside0 (kq ≤ k) ∧ Drawn0 w w')
  case atStart => exact ⟨(0), (by first | rfl | (simp; done) | (simp [*]; done)), H', ⟨Nat.le_refl _⟩, by repeat (first | exact Drawn0.refl _ | apply Drawn0.step)⟩
  case round =>
   clear H'; (try clear c1); (try clear p2); (try clear c3); (try clear c3b0); (try clear c3b1); (try clear c3b2); obtain ⟨x13_1, rfl, HA, HK1, ⟨m1, rfl⟩⟩ := hrel
   cases gk with
   | zero => exact absurd HA.out (by simp [slices_Equal_string_string.l0])
   | succ k1 =>
    have H := HA.out; clear HA; simp only [slices_Equal_string_string.l0] at H; by_cases c4 : x13_1 < (l0.length : Int)
    ·rw [if_pos c4] at H; have c4b0 : decide (x13_1 < (l0.length : Int)) = true := decide_eq_true c4; clear c4; by_cases c5 : 0 ≤ x13_1
     ·rw [if_pos c5] at H; have c5b0 : decide (0 ≤ x13_1) = true := decide_eq_true c5; clear c5; by_cases c6 : x13_1 < (l0.length : Int)
      ·rw [if_pos c6] at H; have c6b0 : decide (x13_1 < (l0.length : Int)) = true := decide_eq_true c6; clear c6; by_cases c7 : x13_1 < (l1.length : Int)
       ·rw [if_pos c7] at H; have c7b0 : decide (x13_1 < (l1.length : Int)) = true := decide_eq_true c7; clear c7; by_cases c8 : (rdOf ByteArray.empty l0 x13_1).toList = (rdOf ByteArray.empty l1 x13_1).toList
        ·rw [if_pos c8] at H; have c8b0 : ((rdOf ByteArray.empty l0 x13_1).toList == (rdOf ByteArray.empty l1 x13_1).toList) = true := beq_iff_eq.mpr c8; have c8b1 : ((rdOf ByteArray.empty l0 x13_1).toList != (rdOf ByteArray.empty l1 x13_1).toList) = false := bne_eq_false_iff_eq.mpr c8; clear c8; have H' := Aside0.mk H; clear H; have p266 : 0 ≤ (x13_1 : Int) := of_decide_eq_true (by assumption); have q266 : x13_1 < (l0.length : Int) := of_decide_eq_true (by assumption); obtain ⟨ad266, e266, hx266_0⟩ := Kd.at_string HR0.out x13_1 p266 q266; cases e266; replace p266 := eq_true p266; replace q266 := eq_true q266; have p267 : 0 ≤ (x13_1 : Int) := of_decide_eq_true (by assumption); have q267 : x13_1 < (l1.length : Int) := of_decide_eq_true (by assumption); obtain ⟨ad267, e267, hx267_0⟩ := Kd.at_string HR1.out x13_1 p267 q267; cases e267; replace p267 := eq_true p267; replace q267 := eq_true q267; go_wp2; (repeat (go_quiet (fail); try go_wp2)); go_roundg k1
         case measure => have := HK1.out; omega
         case rel => exact ⟨(wrap64 (x13_1 + 1)), (by first | rfl | (simp; done) | (simp [*]; done)), H', ⟨by have := HK1.out; omega⟩, by repeat (first | exact Drawn0.refl _ | apply Drawn0.step)⟩
        ·rw [if_neg c8] at H; have c8b0 : ((rdOf ByteArray.empty l0 x13_1).toList == (rdOf ByteArray.empty l1 x13_1).toList) = false := beq_eq_false_iff_ne.mpr c8; have c8b1 : ((rdOf ByteArray.empty l0 x13_1).toList != (rdOf ByteArray.empty l1 x13_1).toList) = true := bne_iff_ne.mpr c8; obtain rfl := Option.some.inj H; have p266 : 0 ≤ (x13_1 : Int) := of_decide_eq_true (by assumption); have q266 : x13_1 < (l0.length : Int) := of_decide_eq_true (by assumption); obtain ⟨ad266, e266, hx266_0⟩ := Kd.at_string HR0.out x13_1 p266 q266; cases e266; replace p266 := eq_true p266; replace q266 := eq_true q266; have p267 : 0 ≤ (x13_1 : Int) := of_decide_eq_true (by assumption); have q267 : x13_1 < (l1.length : Int) := of_decide_eq_true (by assumption); obtain ⟨ad267, e267, hx267_0⟩ := Kd.at_string HR1.out x13_1 p267 q267; cases e267; replace p267 := eq_true p267; replace q267 := eq_true q267; go_wp2; (repeat (go_quiet (fail); try go_wp2)); go_ret; exact ⟨by first | rfl | (simp; done) | (simp [*]; done), by repeat (first | exact Drawn0.refl _ | apply Drawn0.step)⟩
       ·rw [if_neg c7] at H; exact absurd H (by simp)
      ·rw [if_neg c6] at H; exact absurd H (by simp)
     ·rw [if_neg c5] at H; exact absurd H (by simp)
    ·rw [if_neg c4] at H; have c4b0 : decide (x13_1 < (l0.length : Int)) = false := decide_eq_false c4; clear c4; obtain rfl := Option.some.inj H; go_wp2; (repeat (go_quiet (fail); try go_wp2)); go_ret; exact ⟨by first | rfl | (simp; done) | (simp [*]; done), by repeat (first | exact Drawn0.refl _ | apply Drawn0.step)⟩
 ·rw [if_neg c3] at H; have c3b0 : ((l0.length : Int) == (l1.length : Int)) = false := beq_eq_false_iff_ne.mpr c3; have c3b1 : ((l0.length : Int) != (l1.length : Int)) = true := bne_iff_ne.mpr c3; (have c3b2 : (l0.length == l1.length) = false := by first | simpa using c3 | (simp at c3 ⊢; omega)); obtain rfl := Option.some.inj H; go_enter Try.func62, Try.ntmps62; go_wp2; (repeat (go_quiet (fail); try go_wp2)); go_ret; exact ⟨by first | rfl | (simp; done) | (simp [*]; done), by repeat (first | exact Drawn0.refl _ | apply Drawn0.step)⟩
end Go.Proofs.Ytfpdkeolecmepaa.Q
end
section
namespace Go.Proofs.Ytfpdkeolecmepaa.Q
open Go.RowKit Go.Proofs.YtfpdkeolecmepaaW.PrintWords
set_option linter.unusedVariables false
theorem w64 {x : Int} (h0 : -9223372036854775808 ≤ x) (h1 : x ≤ 9223372036854775807) : wrap64 x = x := by unfold wrap64; omega
theorem w64_succ (n : Nat) (h : n ≤ 1000000000000) : wrap64 ((n : Int) + 1) = ((n + 1 : Nat) : Int) := by rw [w64 (by omega) (by omega)]; omega
theorem EvT {α : Type} {g : Nat → Option α} {r r' : α} (h : Ev g r) (e : r = r') : Ev g r' := e ▸ h
theorem Ev.posf {α : Type} {c : Prop} [Decidable c] {g f : Nat → Option α} {r : α} (hc : c) (h : Ev g r) : Ev (fun k => if c then g k else f k) r := by
  obtain ⟨K, h⟩ := h
  exact ⟨K, fun k hk => by show (if c then g k else f k) = _; rw [if_pos hc]; exact h k hk⟩
theorem Ev.negf {α : Type} {c : Prop} [Decidable c] {g f : Nat → Option α} {r : α} (hc : ¬ c) (h : Ev f r) : Ev (fun k => if c then g k else f k) r := by
  obtain ⟨K, h⟩ := h
  exact ⟨K, fun k hk => by show (if c then g k else f k) = _; rw [if_neg hc]; exact h k hk⟩
theorem Ev.mapf {α β : Type} {g : Nat → Option α} {a : α} (f : α → β) (h : Ev g a) : Ev (fun k => (g k).map f) (f a) := by
  obtain ⟨K, h⟩ := h
  exact ⟨K, fun k hk => by show (g k).map f = _; rw [h k hk]; rfl⟩
theorem Ev.somef {α β : Type} {a : α} {f : Nat → α → Option β} {r : β} (h : Ev (fun k => f k a) r) : Ev (fun k => (some a).bind (f k)) r := h
/-- One round of a loop: simp only [F.l0] lays it open. -/
theorem Ev.step' {α : Type} {g : Nat → Option α} {r : α} (h : Ev (fun k => g (k + 1)) r) : Ev g r := Ev.step (fun _ => rfl) h
theorem bstr {a b : ByteArray} : a.toList = b.toList ↔ a = b := by
  constructor
  · intro h
    rw [ByteArray.toList_eq, ByteArray.toList_eq] at h
    cases a; cases b
    simp at h
    subst h
    rfl
  · rintro rfl; rfl
theorem rdAt {α : Type} {d : α} {xs : List α} {i : Nat} (h : i < xs.length) : rdOf d xs (i : Int) = xs[i] := by
  simp [rdOf, List.getD_eq_getElem?_getD, h]
theorem rdI {xs : List Int} {i : Nat} (h : i < xs.length) : rd xs (i : Int) = xs[i] := by
  simp [rd, List.getD_eq_getElem?_getD, h]
theorem toNat_of {i : Int} (h : 0 ≤ i) : ∃ n : Nat, i = n := ⟨i.toNat, by omega⟩
theorem xor_nn {x y : Int} (hx : 0 ≤ x) (hy : 0 ≤ y) (hx1 : x < 4611686018427387904) (hy1 : y < 4611686018427387904) : 0 ≤ Go.bits .xor .i64 x y ∧ Go.bits .xor .i64 x y < 4611686018427387904 := by
  obtain ⟨a, rfl⟩ := toNat_of hx
  obtain ⟨b, rfl⟩ := toNat_of hy
  have ha : a < 2 ^ 62 := by omega
  have hb : b < 2 ^ 62 := by omega
  have hab := Nat.xor_lt_two_pow ha hb
  have e : Go.bits .xor .i64 (a : Int) (b : Int) = ((a ^^^ b : Nat) : Int) := by
    have ha' : a % 2 ^ 64 = a := Nat.mod_eq_of_lt (by omega)
    have hb' : b % 2 ^ 64 = b := Nat.mod_eq_of_lt (by omega)
    simp only [Go.bits, IntKind.bits, BitVec.ofInt_natCast]
    have e2 : (BitVec.ofNat 64 a ^^^ BitVec.ofNat 64 b).toNat = a ^^^ b := by rw [BitVec.toNat_xor, BitVec.toNat_ofNat, BitVec.toNat_ofNat, ha', hb']
    rw [IntKind.wrap_i64]
    have e3 : (BitVec.ofNat IntKind.i64.bits a ^^^ BitVec.ofNat IntKind.i64.bits b).toNat = a ^^^ b := e2
    have e4 : ∀ q : Nat, q = a ^^^ b → ((q : Int) + 9223372036854775808) % 18446744073709551616 - 9223372036854775808 = ((a ^^^ b : Nat) : Int) := by intro q hq; rw [hq]; omega
    exact e4 _ e3
  rw [e]
  omega
/-- Lines that are not long. -/
def Sz (l : List ByteArray) : Prop := ∀ s ∈ l, s.size ≤ 100
theorem Sz.nil : Sz [] := fun s h => by cases h
theorem Sz.app {a b : List ByteArray} (h : Sz a) (k : Sz b) : Sz (a ++ b) := fun s hs => by
  rcases List.mem_append.mp hs with hs | hs
  · exact h s hs
  · exact k s hs
theorem Sz.one {s : ByteArray} (h : s.size ≤ 100) : Sz [s] := fun x hx => by
  rw [List.mem_singleton.mp hx]
  exact h
theorem Sz.sub {a b : List ByteArray} (h : Sz a) (k : ∀ s ∈ b, s ∈ a) : Sz b := fun s hs => h s (k s hs)
theorem Sz.take {a : List ByteArray} (h : Sz a) (n : Nat) : Sz (a.take n) := h.sub fun _ hs => List.mem_of_mem_take hs
theorem Sz.drop {a : List ByteArray} (h : Sz a) (n : Nat) : Sz (a.drop n) := h.sub fun _ hs => List.mem_of_mem_drop hs
theorem Sz.set {a : List ByteArray} (h : Sz a) (n : Nat) {s : ByteArray} (k : s.size ≤ 100) : Sz (a.set n s) := fun x hx => by
  rcases List.mem_or_eq_of_mem_set hx with hx | rfl
  · exact h x hx
  · exact k
end Go.Proofs.Ytfpdkeolecmepaa.Q
end
section
namespace Go.Proofs.Ytfpdkeolecmepaa.Q
open Go.RowKit Go.Proofs.YtfpdkeolecmepaaW.PrintWords Go.Proofs.YtfpdkeolecmepaaW.PrintLast Go.Proofs.YtfpdkeolecmepaaW.PrintMore
attribute [local go_sem] max2_int min2_int max_two min_two max_three min_three max_four min_four   -- for this text's walks alone
set_option linter.unusedVariables false
set_option linter.unusedSimpArgs false
theorem equal0_ev (a b : List ByteArray) (h : a.length = b.length) (hs : a.length ≤ 100000000) : ∀ (d i : Nat), i ≤ a.length → a.length - i = d →
 ∃ r, Ev (fun k => slices_Equal_string_string.l0 k a b (a.length : Int) i) r ∧ (r = true ↔ a.drop i = b.drop i)
 | 0, i, hi, hd => by
  refine ⟨true, Ev.step' ?_, ?_⟩
  ·simp only [slices_Equal_string_string.l0]; exact Ev.negf (by omega) (Ev.now _)
  ·rw [List.drop_eq_nil_of_le (by omega), List.drop_eq_nil_of_le (by omega)]; simp
 | d + 1, i, hi, hd => by
  (have h1 : i < a.length := by omega); (have h2 : i < b.length := by omega); rw [List.drop_eq_getElem_cons h1, List.drop_eq_getElem_cons h2]; by_cases c : a[i].toList = b[i].toList
  ·obtain ⟨r, hr, he⟩ := equal0_ev a b h hs d (i + 1) (by omega) (by omega); refine ⟨r, Ev.step' ?_, ?_⟩
   ·simp only [slices_Equal_string_string.l0]; rw [rdAt h1, rdAt h2, show wrap64 ((i : Int) + 1) = ((i + 1 : Nat) : Int) by rw [w64 (by omega) (by omega)]; omega]; exact Ev.posf (by omega) (Ev.posf (by omega) (Ev.posf (by omega) (Ev.posf (by omega) (Ev.posf c hr))))
   ·rw [he, bstr.mp c]; exact ⟨fun e => by rw [e], fun e => (List.cons.inj e).2⟩
  ·refine ⟨false, Ev.step' ?_, ?_⟩
   ·simp only [slices_Equal_string_string.l0]; rw [rdAt h1, rdAt h2]; exact Ev.posf (by omega) (Ev.posf (by omega) (Ev.posf (by omega) (Ev.posf (by omega) (Ev.negf c (Ev.now _)))))
   ·exact ⟨fun e => (by cases e), fun e => absurd (bstr.mpr (List.cons.inj e).1) c⟩
theorem equal_at (a b : List ByteArray) (hs : a.length ≤ 100000000) : ∃ k, slices_Equal_string_string.f k a b = some (decide (a = b)) := by
 have : ∃ r, Ev (fun k => slices_Equal_string_string.f k a b) r ∧ (r = true ↔ a = b) := by
  unfold slices_Equal_string_string.f
  by_cases h : a.length = b.length
  ·obtain ⟨r, hr, he⟩ := equal0_ev a b h hs _ 0 (by omega) rfl; exact ⟨r, Ev.posf (by omega) hr, by simpa using he⟩
  ·exact ⟨false, Ev.negf (by omega) (Ev.now _), by simp; intro e; exact h (by rw [e])⟩
 obtain ⟨r, hr, he⟩ := this; (have : r = decide (a = b) := by cases r <;> simp_all); subst this; exact hr.rounds
theorem equal_calls (a b : List ByteArray) (hs : a.length ≤ 100000000) (A0 : Option Addr) (c0 : Nat) (A1 : Option Addr) (c1 : Nat) (w : World) (t : Bool) (ht : decide (a = b) = t) (hr0 : Kd.C Kd.string w A0 a.length a) (hc0 : a.length ≤ c0) (hr1 : Kd.C Kd.string w A1 b.length b) (hc1 : b.length ≤ c1) :
 Calls Try.prog 62 #[.slice A0 a.length c0, .slice A1 b.length c1] w fun e w' => e = .returned (.bool t) ∧ Drawn0 w w' := by
 obtain ⟨k, hk⟩ := equal_at a b hs; rw [ht] at hk; exact slices_Equal_string_string.calls k A0 c0 a A1 c1 b t w hr0 hc0 hr1 hc1 hk
set_option maxHeartbeats 4000000 in
set_option maxRecDepth 100000 in
theorem region_calls (w0 w : World) (g : Nat) (v : Value) (ps : List Pt) (N M : Nat) (Ao : Option Addr) (co : Nat) (o : List ByteArray) (Aa : Option Addr) (ca : Nat) (a : List ByteArray) (Ab : Option Addr) (cb : Nat) (b : List ByteArray) (hG : w.heap[g]? = some (.cells #[v] 79 (0, 0))) (hS : Kd.S kPt 31 w w0.heap.size (fun k => M ≤ k) v ps) (hgM : g < M) (hM : M ≤ w.heap.size) (hro : Kd.C Kd.string w Ao o.length o) (hco : o.length ≤ co) (hra : Kd.C Kd.string w Aa a.length a) (hca : a.length ≤ ca) (hrb : Kd.C Kd.string w Ab b.length b) (hcb : b.length ≤ cb) (hB : Below w0.heap.size w0 w) (hg0 : w0.heap.size ≤ g) (hP : smP N ps) (hN : N ≤ 100000000) (hlo : o.length ≤ 1000) (hla : a.length ≤ 1000) (hlb : b.length ≤ 1000) :
 Calls Try.prog 80 #[.pointer (some ⟨g, 0, none⟩), .slice Ao o.length co, .slice Aa a.length ca, .slice Ab b.length cb] w fun e w' => e = .returned (.tuple #[]) ∧ (∃ v', w'.heap[g]? = some (.cells #[v'] 79 (0, 0)) ∧ Kd.S kPt 31 w' w0.heap.size (fun k => M ≤ k) v' (reg ps o a b)) ∧ Below w0.heap.size w0 w' ∧ Kept w w' (fun k => M ≤ k ∨ k = g) := by
 have HG := Aside0.mk hG; have HS := Aside0.mk hS; have HRo := Aside0.mk hro; have HRa := Aside0.mk hra; have HRb := Aside0.mk hrb; have HC := Aside0.mk (And.intro hco (And.intro hca hcb)); have HB := Aside0.mk hB; have HP := Aside0.mk hP; have HL := Aside0.mk (And.intro hlo (And.intro hla hlb)); have HX := Aside0.mk (And.intro hgM (And.intro hM hg0)); have HN := Aside0.mk hN; clear hG hS hro hco hra hca hrb hcb hB hg0 hP hN hlo hla hlb hgM hM; go_enter Try.func80, Try.ntmps80; by_cases e1 : a = o
 ·have q1 : decide (a = o) = true := decide_eq_true e1; have HE := Aside0.mk (show reg ps o a b = res ps b by rw [reg, if_pos (.inl e1)]); clear e1; go_wp2_with (first | (go_at_call 62; with_reducible refine (equal_calls a o (by have := HL.out; omega) _ _ _ _ _ true q1 HRa.out HC.out.2.1 HRo.out HC.out.1).mono ?_; rintro e w' ⟨rfl, nd, rfl⟩) | (go_at_call 81; refine (resolved_calls w0 _ g v ps N M Ab cb b ?s1 ?s2 HX.out.1 ?sM ?s3 HC.out.2.2 ?s4 HX.out.2.2 HP.out HN.out HL.out.2.2).mono ?_; (case sM => exact HX.out.2.1); (case s1 => repeat (first | (with_reducible exact HG.out) | (with_reducible refine blk_drewN ?_ _))); (case s2 => repeat (first | (with_reducible exact HS.out) | (with_reducible refine Kd.S_drewN ?_ _))); (case s3 => repeat (first | (with_reducible exact HRb.out) | (with_reducible refine Kd.C_drewN ?_ _))); (case s4 => repeat (first | (with_reducible exact HB.out) | (with_reducible refine pw_below_drewN ?_ _))); rintro e w' ⟨rfl, ⟨v', hG', hS'⟩, hB', hK'⟩)); go_end0; exact ⟨rfl, ⟨v', hG', by rw [HE.out]; exact hS'⟩, hB', hK'⟩
 ·by_cases e2 : a = b
  ·have q1 : decide (a = o) = false := decide_eq_false e1; have q2 : decide (a = b) = true := decide_eq_true e2; have HE := Aside0.mk (show reg ps o a b = res ps b by rw [reg, if_pos (.inr e2)]); clear e1 e2; go_wp2_with (first | (go_at_call 62; with_reducible refine (equal_calls a o (by have := HL.out; omega) _ _ _ _ _ false q1 HRa.out HC.out.2.1 HRo.out HC.out.1).mono ?_; rintro e w' ⟨rfl, nd, rfl⟩) | (go_at_call 62; with_reducible refine (equal_calls a b (by have := HL.out; omega) _ _ _ _ _ true q2 ?s1 HC.out.2.1 ?s2 HC.out.2.2).mono ?_; (case s1 => repeat (first | (with_reducible exact HRa.out) | (with_reducible refine Kd.C_drewN ?_ _))); (case s2 => repeat (first | (with_reducible exact HRb.out) | (with_reducible refine Kd.C_drewN ?_ _))); rintro e w' ⟨rfl, nd2, rfl⟩) | (go_at_call 81; refine (resolved_calls w0 _ g v ps N M Ab cb b ?s1 ?s2 HX.out.1 ?sM ?s3 HC.out.2.2 ?s4 HX.out.2.2 HP.out HN.out HL.out.2.2).mono ?_; (case sM => exact HX.out.2.1); (case s1 => repeat (first | (with_reducible exact HG.out) | (with_reducible refine blk_drewN ?_ _))); (case s2 => repeat (first | (with_reducible exact HS.out) | (with_reducible refine Kd.S_drewN ?_ _))); (case s3 => repeat (first | (with_reducible exact HRb.out) | (with_reducible refine Kd.C_drewN ?_ _))); (case s4 => repeat (first | (with_reducible exact HB.out) | (with_reducible refine pw_below_drewN ?_ _))); rintro e w' ⟨rfl, ⟨v', hG', hS'⟩, hB', hK'⟩)); go_end0; exact ⟨rfl, ⟨v', hG', by rw [HE.out]; exact hS'⟩, hB', hK'⟩
  ·by_cases e3 : b = o
   ·have q1 : decide (a = o) = false := decide_eq_false e1; have q2 : decide (a = b) = false := decide_eq_false e2; have q3 : decide (b = o) = true := decide_eq_true e3; have HE := Aside0.mk (show reg ps o a b = res ps a by rw [reg, if_neg (fun h => h.elim e1 e2), if_pos e3]); clear e1 e2 e3; go_wp2_with (first | (go_at_call 62; with_reducible refine (equal_calls a o (by have := HL.out; omega) _ _ _ _ _ false q1 HRa.out HC.out.2.1 HRo.out HC.out.1).mono ?_; rintro e w' ⟨rfl, nd, rfl⟩) | (go_at_call 62; with_reducible refine (equal_calls a b (by have := HL.out; omega) _ _ _ _ _ false q2 ?s1 HC.out.2.1 ?s2 HC.out.2.2).mono ?_; (case s1 => repeat (first | (with_reducible exact HRa.out) | (with_reducible refine Kd.C_drewN ?_ _))); (case s2 => repeat (first | (with_reducible exact HRb.out) | (with_reducible refine Kd.C_drewN ?_ _))); rintro e w' ⟨rfl, nd2, rfl⟩) | (go_at_call 62; with_reducible refine (equal_calls b o (by have := HL.out; omega) _ _ _ _ _ true q3 ?s1 HC.out.2.2 ?s2 HC.out.1).mono ?_; (case s1 => repeat (first | (with_reducible exact HRb.out) | (with_reducible refine Kd.C_drewN ?_ _))); (case s2 => repeat (first | (with_reducible exact HRo.out) | (with_reducible refine Kd.C_drewN ?_ _))); rintro e w' ⟨rfl, nd3, rfl⟩) | (go_at_call 81; refine (resolved_calls w0 _ g v ps N M Aa ca a ?s1 ?s2 HX.out.1 ?sM ?s3 HC.out.2.1 ?s4 HX.out.2.2 HP.out HN.out HL.out.2.1).mono ?_; (case sM => exact HX.out.2.1); (case s1 => repeat (first | (with_reducible exact HG.out) | (with_reducible refine blk_drewN ?_ _))); (case s2 => repeat (first | (with_reducible exact HS.out) | (with_reducible refine Kd.S_drewN ?_ _))); (case s3 => repeat (first | (with_reducible exact HRa.out) | (with_reducible refine Kd.C_drewN ?_ _))); (case s4 => repeat (first | (with_reducible exact HB.out) | (with_reducible refine pw_below_drewN ?_ _))); rintro e w' ⟨rfl, ⟨v', hG', hS'⟩, hB', hK'⟩)); go_end0; exact ⟨rfl, ⟨v', hG', by rw [HE.out]; exact hS'⟩, hB', hK'⟩
   ·have q1 : decide (a = o) = false := decide_eq_false e1; have q2 : decide (a = b) = false := decide_eq_false e2; have q3 : decide (b = o) = false := decide_eq_false e3; have HE := Aside0.mk (show reg ps o a b = ps ++ [⟨true, [], o, a, b⟩] by rw [reg, if_neg (fun h => h.elim e1 e2), if_neg e3]); clear e1 e2 e3; go_wp2_with (first | (go_at_call 62; with_reducible refine (equal_calls a o (by have := HL.out; omega) _ _ _ _ _ false q1 HRa.out HC.out.2.1 HRo.out HC.out.1).mono ?_; rintro e w' ⟨rfl, nd, rfl⟩) | (go_at_call 62; with_reducible refine (equal_calls a b (by have := HL.out; omega) _ _ _ _ _ false q2 ?s1 HC.out.2.1 ?s2 HC.out.2.2).mono ?_; (case s1 => repeat (first | (with_reducible exact HRa.out) | (with_reducible refine Kd.C_drewN ?_ _))); (case s2 => repeat (first | (with_reducible exact HRb.out) | (with_reducible refine Kd.C_drewN ?_ _))); rintro e w' ⟨rfl, nd2, rfl⟩) | (go_at_call 62; with_reducible refine (equal_calls b o (by have := HL.out; omega) _ _ _ _ _ false q3 ?s1 HC.out.2.2 ?s2 HC.out.1).mono ?_; (case s1 => repeat (first | (with_reducible exact HRb.out) | (with_reducible refine Kd.C_drewN ?_ _))); (case s2 => repeat (first | (with_reducible exact HRo.out) | (with_reducible refine Kd.C_drewN ?_ _))); rintro e w' ⟨rfl, nd3, rfl⟩))
    obtain ⟨Av, n, cv, rfl, hn⟩ : ∃ Av n cv, v = .slice Av n cv ∧ n = ps.length := by
     obtain ⟨Av, cv, rfl⟩ := Kd.S_slice HS.out; exact ⟨Av, _, cv, rfl, rfl⟩
    obtain ⟨W, hW⟩ : ∃ W, W = w.drewN (nd + nd2 + nd3) := ⟨_, rfl⟩; rw [← hW]; (have hM1 : M ≤ W.heap.size := by rw [hW]; exact HX.out.2.1); have HS1 : Aside0 (Kd.S kPt 31 W.drew w0.heap.size (fun k => M ≤ k ∧ k < W.heap.size) (.slice Av n cv) ps) := ⟨Kd.S_drew (Kd.S_mono (Kd.S_bound (w := W) (by rw [hW]; repeat (first | (with_reducible exact HS.out) | (with_reducible refine Kd.S_drewN ?_ _)))) (fun k hk => ⟨hk.1, hk.2.2.1⟩))⟩; have HG1 : Aside0 (W.drew.heap[g]? = some (.cells #[.slice Av n cv] 79 (0, 0))) := ⟨blk_drew (by rw [hW]; repeat (first | (with_reducible exact HG.out) | (with_reducible refine blk_drewN ?_ _)))⟩; have HB1 : Aside0 (Below w0.heap.size w0 W.drew) := ⟨below_drew1 (by rw [hW]; repeat (first | (with_reducible exact HB.out) | (with_reducible refine pw_below_drewN ?_ _)))⟩; have HRo1 : Aside0 (Kd.C Kd.string W.drew Ao o.length o) := ⟨Kd.C_drew (by rw [hW]; repeat (first | (with_reducible exact HRo.out) | (with_reducible refine Kd.C_drewN ?_ _)))⟩; have HRa1 : Aside0 (Kd.C Kd.string W.drew Aa a.length a) := ⟨Kd.C_drew (by rw [hW]; repeat (first | (with_reducible exact HRa.out) | (with_reducible refine Kd.C_drewN ?_ _)))⟩; have HRb1 : Aside0 (Kd.C Kd.string W.drew Ab b.length b) := ⟨Kd.C_drew (by rw [hW]; repeat (first | (with_reducible exact HRb.out) | (with_reducible refine Kd.C_drewN ?_ _)))⟩; have HK1 : Aside0 (Kept w W.drew (fun k => M ≤ k ∨ k = g)) := ⟨Kept.drew (by rw [hW]; repeat (first | (with_reducible exact Kept.refl _ _) | (with_reducible refine Kept.drewN ?_ _)))⟩; have HM1 : Aside0 (W.heap.size ≤ W.drew.heap.size) := ⟨Nat.le_refl _⟩; have hcg1 : W.drew.cell? ⟨g, 0, none⟩ = some (.slice Av n cv) := (blk_cell HG1.out 0).trans rfl; clear hn; clear HS HG HB HRo HRa HRb; generalize hZ : W.heap.size = Z at HS1 HM1 hM1; refine start_ (n := 17) (S := fun w' => w'.cell? ⟨g, 0, none⟩ = some (.slice Av n cv)) (ds := [16]) #[f_, f_, f_, f_, f_, f_, f_, f_, f_, f_, f_, f_, f_, f_, f_, f_, f_] (by kernel_rfl) rfl rfl (hcg1) (fun hHeld => ?_); generalize W.drew = w1 at HS1 HG1 HB1 HRo1 HRa1 HRb1 HK1 HM1 hcg1 hHeld ⊢; refine pure_ (i := 0) (N := some 8) (v := ?_) (a' := ?_) #[t_, f_, f_, f_, f_, f_, f_, f_, f_, f_, f_, f_, f_, f_, f_, f_, f_] rfl rfl (by kernel_rfl) (fun _ _ _ h => h) (Or.inl ⟨by rfl, ?_⟩) ?_ ?_
    rotate_left
    ·intro w'; go_simp
     with_reducible rfl
    rotate_left
    ·simp only [Act.put, List.setIfInBounds_toArray, List.set_cons_zero, List.set_cons_succ, i64_w, i32_w]
     rfl
    refine pure_ (i := 1) (N := some 9) (v := ?_) (a' := ?_) #[t_, t_, f_, f_, f_, f_, f_, f_, f_, f_, f_, f_, f_, f_, f_, f_, f_] rfl rfl (by kernel_rfl) (fun _ _ _ h => h) (Or.inl ⟨by rfl, ?_⟩) ?_ ?_
    rotate_left
    ·intro w'; go_simp
     with_reducible rfl
    rotate_left
    ·simp only [Act.put, List.setIfInBounds_toArray, List.set_cons_zero, List.set_cons_succ, i64_w, i32_w]
     rfl
    refine pure_ (i := 2) (N := some 10) (v := ?_) (a' := ?_) #[t_, t_, t_, f_, f_, f_, f_, f_, f_, f_, f_, f_, f_, f_, f_, f_, f_] rfl rfl (by kernel_rfl) (fun _ _ _ h => h) (Or.inl ⟨by rfl, ?_⟩) ?_ ?_
    rotate_left
    ·intro w'; go_simp
     with_reducible rfl
    rotate_left
    ·simp only [Act.put, List.setIfInBounds_toArray, List.set_cons_zero, List.set_cons_succ, i64_w, i32_w]
     rfl
    refine pure_ (i := 3) (N := some 11) (v := ?_) (a' := ?_) #[t_, t_, t_, t_, f_, f_, f_, f_, f_, f_, f_, f_, f_, f_, f_, f_, f_] rfl rfl (by kernel_rfl) (fun _ _ _ h => h) (Or.inl ⟨by rfl, ?_⟩) ?_ ?_
    rotate_left
    ·intro w'; go_simp
     with_reducible rfl
    rotate_left
    ·simp only [Act.put, List.setIfInBounds_toArray, List.set_cons_zero, List.set_cons_succ, i64_w, i32_w]
     rfl
    refine pure_ (i := 5) (N := some 13) (v := ?_) (a' := ?_) #[t_, t_, t_, t_, f_, t_, f_, f_, f_, f_, f_, f_, f_, f_, f_, f_, f_] rfl rfl (by kernel_rfl) (fun _ _ _ h => h) (Or.inl ⟨by rfl, ?_⟩) ?_ ?_
    rotate_left
    ·intro w'; go_simp
     with_reducible rfl
    rotate_left
    ·simp only [Act.put, List.setIfInBounds_toArray, List.set_cons_zero, List.set_cons_succ, i64_w, i32_w]
     rfl
    refine pure_ (i := 7) (N := some 15) (v := ?_) (a' := ?_) #[t_, t_, t_, t_, f_, t_, f_, t_, f_, f_, f_, f_, f_, f_, f_, f_, f_] rfl rfl (by kernel_rfl) (fun _ _ _ h => h) (Or.inl ⟨by rfl, ?_⟩) ?_ ?_
    rotate_left
    ·intro w'; go_simp
     with_reducible rfl
    rotate_left
    ·simp only [Act.put, List.setIfInBounds_toArray, List.set_cons_zero, List.set_cons_succ, i64_w, i32_w]
     rfl
    refine pure_ (i := 9) (N := some 17) (v := ?_) (a' := ?_) #[t_, t_, t_, t_, f_, t_, f_, t_, f_, t_, f_, f_, f_, f_, f_, f_, f_] rfl rfl (by kernel_rfl) (fun _ _ _ h => h) (Or.inl ⟨by rfl, ?_⟩) ?_ ?_
    rotate_left
    ·intro w'; go_simp
     with_reducible rfl
    rotate_left
    ·simp only [Act.put, List.setIfInBounds_toArray, List.set_cons_zero, List.set_cons_succ, i64_w, i32_w]
     rfl
    refine take_ (i := 4) (N := some 12) (v := ?_) (a' := ?_) #[t_, t_, t_, t_, t_, t_, f_, t_, f_, t_, f_, f_, f_, f_, f_, f_, f_] rfl rfl (by kernel_rfl) (fun _ _ _ h => h) (Or.inl ⟨by rfl, ?_⟩) hHeld ?_ ?_
    rotate_left
    ·intro w' s0; go_simp
     with_reducible rfl
    rotate_left
    ·simp only [Act.put, List.setIfInBounds_toArray, List.set_cons_zero, List.set_cons_succ, i64_w, i32_w]
     rfl
    refine one_ (i := 6) (N := some 14) #[t_, t_, t_, t_, t_, t_, t_, t_, f_, t_, f_, f_, f_, f_, f_, f_, f_] rfl rfl (by kernel_rfl) (by decide) (fun K hK => ?_); refine goes_ Try.func65 (by kernel_rfl) rfl #[.slice Ao o.length co] (by rfl) rfl rfl (by simp only [List.map_toArray, List.map_cons, List.map_nil]; rfl) ?_
    with_reducible refine (slices_Clone_string_string.calls Ao co o o w1 HRo1.out HC.out.1 (by have := HL.out; unfold slices_Clone_string_string.f; rw [if_pos (by omega)])).mono ?_
    rintro e w3 ⟨vo, rfl, ho, hb⟩; refine ⟨_, rfl, ?_⟩; have HOo := Aside0.mk (Kd.R_lower (Kd.R_mono (Kd.R_bound ho) (fun k hk => Nat.le_trans HM1.out hk.2.1)) (below_size HB1.out)); have HS3 := Aside0.mk (Kd.S_below HS1.out hb); have HG3 := Aside0.mk (blk_below HG1.out hb); have HB3 := Aside0.mk (below_step HB1.out hb); have HK3 := Aside0.mk (HK1.out.below hb); have HM3 := Aside0.mk (Nat.le_trans HM1.out hb.size); have HRa3 := Aside0.mk (Kd.C_below HRa1.out hb); have HRb3 := Aside0.mk (Kd.C_below HRb1.out hb); have hcg3 : w3.cell? ⟨g, 0, none⟩ = some (.slice Av n cv) := (blk_cell HG3.out 0).trans rfl; obtain ⟨Bo, d_o, rfl⟩ := Kd.R_slice HOo.out; clear hb ho HS1 HG1 HB1 HK1 HM1 hcg1 hHeld HRo1 HRa1 HRb1; refine hK.out _ _ (hcg3) (fun hHeld => ?_); clear hK K; refine norm_ (a' := ?_) ?_ ?_
    rotate_left
    ·show Act.put _ (some 14) _ = _
     simp only [Act.put, List.setIfInBounds_toArray, List.set_cons_zero, List.set_cons_succ, i64_w, i32_w]
     rfl
    refine one_ (i := 8) (N := some 16) #[t_, t_, t_, t_, t_, t_, t_, t_, t_, t_, f_, f_, f_, f_, f_, f_, f_] rfl rfl (by kernel_rfl) (by decide) (fun K hK => ?_); refine goes_ Try.func65 (by kernel_rfl) rfl #[.slice Aa a.length ca] (by rfl) rfl rfl (by simp only [List.map_toArray, List.map_cons, List.map_nil]; rfl) ?_
    with_reducible refine (slices_Clone_string_string.calls Aa ca a a w3 HRa3.out HC.out.2.1 (by have := HL.out; unfold slices_Clone_string_string.f; rw [if_pos (by omega)])).mono ?_
    rintro e w4 ⟨va, rfl, ho, hb⟩; refine ⟨_, rfl, ?_⟩; have HOa := Aside0.mk (Kd.R_lower (Kd.R_mono (Kd.R_bound ho) (fun k hk => Nat.le_trans HM3.out hk.2.1)) (below_size HB3.out)); have HS4 := Aside0.mk (Kd.S_below HS3.out hb); have HG4 := Aside0.mk (blk_below HG3.out hb); have HB4 := Aside0.mk (below_step HB3.out hb); have HK4 := Aside0.mk (HK3.out.below hb); have HM4 := Aside0.mk (Nat.le_trans HM3.out hb.size); have HRb4 := Aside0.mk (Kd.C_below HRb3.out hb); replace HOo := Aside0.mk (Kd.R_below HOo.out hb); have hcg4 : w4.cell? ⟨g, 0, none⟩ = some (.slice Av n cv) := (blk_cell HG4.out 0).trans rfl; obtain ⟨Ba, d_a, rfl⟩ := Kd.R_slice HOa.out; clear hb ho HS3 HG3 HB3 HK3 HM3 hcg3 hHeld HRa3 HRb3; refine hK.out _ _ (hcg4) (fun hHeld => ?_); clear hK K; refine norm_ (a' := ?_) ?_ ?_
    rotate_left
    ·show Act.put _ (some 16) _ = _
     simp only [Act.put, List.setIfInBounds_toArray, List.set_cons_zero, List.set_cons_succ, i64_w, i32_w]
     rfl
    refine one_ (i := 10) (N := some 18) #[t_, t_, t_, t_, t_, t_, t_, t_, t_, t_, t_, f_, f_, f_, f_, f_, f_] rfl rfl (by kernel_rfl) (by decide) (fun K hK => ?_); refine goes_ Try.func65 (by kernel_rfl) rfl #[.slice Ab b.length cb] (by rfl) rfl rfl (by simp only [List.map_toArray, List.map_cons, List.map_nil]; rfl) ?_
    with_reducible refine (slices_Clone_string_string.calls Ab cb b b w4 HRb4.out HC.out.2.2 (by have := HL.out; unfold slices_Clone_string_string.f; rw [if_pos (by omega)])).mono ?_
    rintro e w5 ⟨vb, rfl, ho, hb⟩; refine ⟨_, rfl, ?_⟩; have HOb := Aside0.mk (Kd.R_lower (Kd.R_mono (Kd.R_bound ho) (fun k hk => Nat.le_trans HM4.out hk.2.1)) (below_size HB4.out)); have HS5 := Aside0.mk (Kd.S_below HS4.out hb); have HG5 := Aside0.mk (blk_below HG4.out hb); have HB5 := Aside0.mk (below_step HB4.out hb); have HK5 := Aside0.mk (HK4.out.below hb); have HM5 := Aside0.mk (Nat.le_trans HM4.out hb.size); replace HOo := Aside0.mk (Kd.R_below HOo.out hb); replace HOa := Aside0.mk (Kd.R_below HOa.out hb); have hcg5 : w5.cell? ⟨g, 0, none⟩ = some (.slice Av n cv) := (blk_cell HG5.out 0).trans rfl; obtain ⟨Bb, d_b, rfl⟩ := Kd.R_slice HOb.out; clear hb ho HS4 HG4 HB4 HK4 HM4 hcg4 hHeld HRb4; refine hK.out _ _ (hcg5) (fun hHeld => ?_); clear hK K; refine norm_ (a' := ?_) ?_ ?_
    rotate_left
    ·show Act.put _ (some 18) _ = _
     simp only [Act.put, List.setIfInBounds_toArray, List.set_cons_zero, List.set_cons_succ, i64_w, i32_w]
     rfl
    refine pure_ (i := 11) (N := some 19) (v := ?_) (a' := ?_) #[t_, t_, t_, t_, t_, t_, t_, t_, t_, t_, t_, t_, f_, f_, f_, f_, f_] rfl rfl (by kernel_rfl) (fun _ _ _ h => h) (Or.inl ⟨by rfl, ?_⟩) ?_ ?_
    rotate_left
    ·intro w'; go_simp
     with_reducible rfl
    rotate_left
    ·simp only [Act.put, List.setIfInBounds_toArray, List.set_cons_zero, List.set_cons_succ, i64_w, i32_w]
     rfl
    refine one_ (i := 12) (N := some 20) #[t_, t_, t_, t_, t_, t_, t_, t_, t_, t_, t_, t_, t_, f_, f_, f_, f_] rfl rfl (by kernel_rfl) (by decide) (fun K hK => ?_); refine value_ (w1 := ?_) (v := ?_) (by rfl) rfl ?_ ?_
    rotate_left 2
    ·go_simp
     constructor
     ·rfl
     ·rfl
    refine hK.out _ _ ((World.cell?_alloc_lt _ _ _ (World.block_lt_of_cell? _ _ hcg5)).trans hcg5) (fun hHeld => ?_); clear hK K; refine norm_ (a' := ?_) ?_ ?_
    rotate_left
    ·show Act.put _ (some 20) _ = _
     simp only [Act.put, List.setIfInBounds_toArray, List.set_cons_zero, List.set_cons_succ, i64_w, i32_w]
     rfl
    refine one_ (i := 13) (N := some 21) #[t_, t_, t_, t_, t_, t_, t_, t_, t_, t_, t_, t_, t_, t_, f_, f_, f_] rfl rfl (by kernel_rfl) (by decide) (fun K hK => ?_); refine Kd.S_append_step kPt (w0 := w0) w0.heap.size (by rfl) (.tmp 12) (.tmp 20) 26 31 (.agg #[.bool false, .slice none 0 0, .slice none 0 0, .slice none 0 0, .slice none 0 0]) 104 rfl Try.underlying26 infoPt rfl (by decide) (by omega) (.slice Av n cv) ps (⟨true, [], o, a, b⟩ : Pt) [.bool true, .slice none 0 0, .slice Bo o.length d_o, .slice Ba a.length d_a, .slice Bb b.length d_b] (fun k => M ≤ k) (fun k => Z ≤ k) rfl rfl ?aP (fun k hk => ⟨Nat.le_trans hM1 hk, fun h2 => Nat.lt_irrefl _ (Nat.lt_of_lt_of_le ((Kd.S_R HS5.out).1 k h2.symm).2 hk)⟩) (fun k hk => Nat.le_trans hM1 (Nat.le_trans HM5.out hk)) ?aO HB5.out (below_size HB5.out) ?aL ?_
    (case aP => exact ⟨_, _, _, _, rfl, Kd.R_nil _ _ _ _ _, Kd.R_mono HOo.out (fun k hk => ⟨hk, by simp [Value.ownBlock]⟩), Kd.R_mono HOa.out (fun k hk => ⟨hk, by simp [Value.ownBlock]⟩), Kd.R_mono HOb.out (fun k hk => ⟨hk, by simp [Value.ownBlock]⟩)⟩)
    (case aO => exact Kd.S_mono HS5.out (fun k hk => ⟨hk.1, Nat.not_le.mpr hk.2⟩))
    (case aL => have h1 := HP.out.1; have h2 := HN.out; omega)
    intro v6 w6 ho hb hg hat; obtain ⟨A6, n6, c6, rfl⟩ : ∃ A n c, v6 = .slice A n c := (by obtain ⟨A6, c6, h6⟩ := Kd.S_slice ho; exact ⟨A6, _, c6, h6⟩); have HG6 := Aside0.mk (blk_grown HG5.out hg (fun h => by have := (Kd.S_R HS5.out).1 g h.symm; have := HX.out.1; omega)); have HK6 := Aside0.mk (Kept.of_grown hg HK5.out (fun k hk => by have := (Kd.S_R HS5.out).1 k hk; exact .inl (.inl this.1))); have hcg6 : w6.cell? ⟨g, 0, none⟩ = some (.slice Av n cv) := (blk_cell HG6.out 0).trans rfl; have hzg6 : w6.frozen? ⟨g, 0, none⟩ = false := blk_frozen HG6.out 0; refine hK.out _ _ (hcg6) (fun hHeld => ?_); clear hK K; refine norm_ (a' := ?_) ?_ ?_
    rotate_left
    ·show Act.put _ (some 21) _ = _
     simp only [Act.put, List.setIfInBounds_toArray, List.set_cons_zero, List.set_cons_succ, i64_w, i32_w]
     rfl
    refine pure_ (i := 14) (N := some 22) (v := ?_) (a' := ?_) #[t_, t_, t_, t_, t_, t_, t_, t_, t_, t_, t_, t_, t_, t_, t_, f_, f_] rfl rfl (by kernel_rfl) (fun _ _ _ h => h) (Or.inl ⟨by rfl, ?_⟩) ?_ ?_
    rotate_left
    ·intro w'; go_simp
     with_reducible rfl
    rotate_left
    ·simp only [Act.put, List.setIfInBounds_toArray, List.set_cons_zero, List.set_cons_succ, i64_w, i32_w]
     rfl
    refine pure_ (i := 15) (N := some 23) (v := ?_) (a' := ?_) #[t_, t_, t_, t_, t_, t_, t_, t_, t_, t_, t_, t_, t_, t_, t_, t_, f_] rfl rfl (by kernel_rfl) (fun _ _ _ h => h) (Or.inl ⟨by rfl, ?_⟩) ?_ ?_
    rotate_left
    ·intro w'; go_simp
     with_reducible rfl
    rotate_left
    ·simp only [Act.put, List.setIfInBounds_toArray, List.set_cons_zero, List.set_cons_succ, i64_w, i32_w]
     rfl
    refine last_ (i := 16) (N := none) #[t_, t_, t_, t_, t_, t_, t_, t_, t_, t_, t_, t_, t_, t_, t_, t_, t_] rfl rfl (by kernel_rfl) (by decide) (fun K hK => ?_); refine skip_ (w1 := ?_) (by rfl) rfl ?_ ?_
    rotate_left
    ·go_simp
     rfl
    refine hK.out _ _ ?_; clear hK K; refine done_ (by kernel_rfl) ?_; go_wp2; go_end0; exact ⟨rfl, ⟨_, (blk_set HG6.out 0 _).trans rfl, by rw [HE.out]; exact Kd.S_far ho (fun k hk => by have := HX.out.1; show k ≠ g; omega) _⟩, below_set hb HX.out.2.2, HK6.out.setCell (.inl (.inr rfl)) _⟩
theorem region_callsN (w0 w : World) (g : Nat) (v : Value) (ps : List Pt) (N M : Nat) (Ao : Option Addr) (no co : Nat) (o : List ByteArray) (Aa : Option Addr) (na ca : Nat) (a : List ByteArray) (Ab : Option Addr) (nb cb : Nat) (b : List ByteArray) (hno : no = o.length) (hna : na = a.length) (hnb : nb = b.length) (hG : w.heap[g]? = some (.cells #[v] 79 (0, 0))) (hS : Kd.S kPt 31 w w0.heap.size (fun k => M ≤ k) v ps) (hgM : g < M) (hM : M ≤ w.heap.size) (hro : Kd.C Kd.string w Ao o.length o) (hco : o.length ≤ co) (hra : Kd.C Kd.string w Aa a.length a) (hca : a.length ≤ ca) (hrb : Kd.C Kd.string w Ab b.length b) (hcb : b.length ≤ cb) (hB : Below w0.heap.size w0 w) (hg0 : w0.heap.size ≤ g) (hP : smP N ps) (hN : N ≤ 100000000) (hlo : o.length ≤ 1000) (hla : a.length ≤ 1000) (hlb : b.length ≤ 1000) :
 Calls Try.prog 80 #[.pointer (some ⟨g, 0, none⟩), .slice Ao no co, .slice Aa na ca, .slice Ab nb cb] w fun e w' => e = .returned (.tuple #[]) ∧ (∃ v', w'.heap[g]? = some (.cells #[v'] 79 (0, 0)) ∧ Kd.S kPt 31 w' w0.heap.size (fun k => M ≤ k) v' (reg ps o a b)) ∧ Below w0.heap.size w0 w' ∧ Kept w w' (fun k => M ≤ k ∨ k = g) := by
 subst hno hna hnb; exact region_calls w0 w g v ps N M Ao co o Aa ca a Ab cb b hG hS hgM hM hro hco hra hca hrb hcb hB hg0 hP hN hlo hla hlb
end Go.Proofs.Ytfpdkeolecmepaa.Q
end
