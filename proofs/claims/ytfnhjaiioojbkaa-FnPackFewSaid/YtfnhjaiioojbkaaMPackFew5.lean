/- FnPackFew: for every argument the law returns true, and its arguments read behind the call as they read before. No conditions. -/
import Derived.SizedLaws
import Derived.ChangeSlices
import Derived.Test.YtfnhjaiioojbkaaRows
import Derived.WalkKit
import Derived.ProofKit
import Derived.OpenShut
import Derived.ShutString
import Derived.ChangeOld
import Derived.Below
import Derived.Test.YtfnhjaiioojbkaaMPackFew0
import Derived.Test.YtfnhjaiioojbkaaMPackFew1
import Derived.Test.YtfnhjaiioojbkaaMPackFew2
import Derived.Test.YtfnhjaiioojbkaaMPackFew3
import Derived.Test.YtfnhjaiioojbkaaMPackFew4
set_option linter.unusedVariables false
set_option linter.unusedSimpArgs false
section
namespace Go.Proofs.Ytfnhjaiioojbkaa.Q
open Go.RowKit Go.Proofs.YtfnhjaiioojbkaaW.PrintWords
set_option linter.unusedVariables false
set_option linter.unusedSimpArgs false
def PkS (P : List Pk) : Prop := P.length ≤ 1000000 ∧ ∀ p ∈ P, SmD p.f1
theorem PkS.get {P : List Pk} (h : PkS P) {j : Nat} (hj : j < P.length) : SmD (pkAt P j).f1 := by
  have e : pkAt P j = P[j] := by simp [pkAt, List.getD_eq_getElem?_getD, hj]
  rw [e]
  exact h.2 _ (List.getElem_mem hj)
theorem txAt_old {l : List Tx} {j : Nat} (x : Tx) (h : j < l.length) : txAt (l ++ [x]) j = txAt l j := by
  simp [txAt, List.getD_eq_getElem?_getD, List.getElem?_append_left h]
theorem txAt_new (l : List Tx) (x : Tx) : txAt (l ++ [x]) l.length = x := by simp [txAt]
abbrev Un := List Tx × List Int
def bs (q : Un) (p : Pk) : Tx := if 0 ≤ p.f0 then txAt q.1 p.f0.toNat else []
def stepU (P : List Pk) (i : Nat) (q : Un) : Option Un :=
  if i < 12 ∧ -1 ≤ (pkAt P i).f0 ∧ (pkAt P i).f0 < (i : Int) ∧ (doB (bs q (pkAt P i)) (pkAt P i).f1).2 = true ∧ dep q.2 (pkAt P i).f0 ≤ 3 then some (q.1 ++ [(doB (bs q (pkAt P i)) (pkAt P i).f1).1], q.2 ++ [dep q.2 (pkAt P i).f0]) else none
def unG (P : List Pk) : Nat → Option Un
  | 0 => some ([], [])
  | i + 1 => (unG P i).bind (stepU P i)
theorem unG_none {P : List Pk} {i : Nat} (h : unG P i = none) : ∀ d, unG P (i + d) = none
  | 0 => h
  | d + 1 => by rw [← Nat.add_assoc, unG, unG_none h d]; rfl
def resU : Option Un → List Tx × List Int × Bool
  | some q => (q.1, q.2, true)
  | none => ([], [], false)
/-- What is known of a pack's first i texts. -/
def GU (P : List Pk) (q : Un) (i : Nat) : Prop := i ≤ 12 ∧ q.1.length = i ∧ q.2.length = i ∧ ∀ j, j < i → textB (txAt q.1 j) = true ∧ 1 ≤ dpAt q.2 j ∧ dpAt q.2 j ≤ 3 ∧ -1 ≤ (pkAt P j).f0 ∧ (pkAt P j).f0 < (j : Int) ∧
  doB (bs q (pkAt P j)) (pkAt P j).f1 = (txAt q.1 j, true) ∧ dpAt q.2 j = dep q.2 (pkAt P j).f0
theorem bs_app {q : Un} {p : Pk} (t : Tx) (n : Int) (h : p.f0 < (q.1.length : Int)) : bs (q.1 ++ [t], q.2 ++ [n]) p = bs q p := by
  unfold bs
  split
  · exact txAt_old _ (by omega)
  · rfl
theorem dep_app {D : List Int} {b : Int} (n : Int) (h : b < (D.length : Int)) : dep (D ++ [n]) b = dep D b := by
  unfold dep
  split
  · rw [dpAt_old _ (by omega)]
  · rfl
theorem dep_pos {D : List Int} {b : Int} (h : ∀ j, j < D.length → 1 ≤ dpAt D j) (hb : b < (D.length : Int)) : 1 ≤ dep D b := by
  unfold dep
  split
  · have := h b.toNat (by omega); omega
  · omega
theorem unG_good {P : List Pk} : ∀ (i : Nat) (q : Un), unG P i = some q → GU P q i
  | 0, q, h => by
    obtain rfl := Option.some.inj h
    exact ⟨by omega, rfl, rfl, fun j hj => absurd hj (by omega)⟩
  | i + 1, q, h => by
    obtain ⟨q0, h0, h1⟩ := Option.bind_eq_some_iff.mp h
    obtain ⟨_, l1, l2, g⟩ := unG_good i q0 h0
    unfold stepU at h1
    split at h1
    case isFalse => cases h1
    case isTrue c =>
      obtain ⟨c1, c2, c3, c4, c5⟩ := c
      obtain rfl := Option.some.inj h1
      have hd := dep_pos (D := q0.2) (b := (pkAt P i).f0) (fun j hj => (g j (by omega)).2.1) (by omega)
      refine ⟨by omega, by simp [l1], by simp [l2], fun j hj => ?_⟩
      by_cases e : j = i
      · subst e
        have e1 : txAt (q0.1 ++ [(doB (bs q0 (pkAt P j)) (pkAt P j).f1).1]) j = (doB (bs q0 (pkAt P j)) (pkAt P j).f1).1 := by
          have := txAt_new q0.1 (doB (bs q0 (pkAt P j)) (pkAt P j).f1).1
          rw [l1] at this; exact this
        have e2 : dpAt (q0.2 ++ [dep q0.2 (pkAt P j).f0]) j = dep q0.2 (pkAt P j).f0 := by
          have := dpAt_new q0.2 (dep q0.2 (pkAt P j).f0)
          rw [l2] at this; exact this
        simp only [e1, e2]
        rw [bs_app _ _ (by omega), dep_app _ (by omega)]
        exact ⟨(doB_true c4).2.2.2, hd, c5, c2, c3, Prod.ext rfl c4, rfl⟩
      · have hj' : j < i := by omega
        obtain ⟨g1, g2, g3, g4, g5, g6, g7⟩ := g j hj'
        simp only [txAt_old _ (show j < q0.1.length by omega), dpAt_old _ (show j < q0.2.length by omega)]
        rw [bs_app _ _ (by omega), dep_app _ (by omega)]
        exact ⟨g1, g2, g3, g4, g5, g6, g7⟩
theorem unpackAny0_ev {P : List Pk} (hs : PkS P) : ∀ (d i : Nat) (q : Un), P.length - i = d → i ≤ P.length → unG P i = some q →
    Ev (fun k => impl_unpacked.l0 k q.1 q.2 P (P.length : Int) i) (resU (unG P P.length))
  | 0, i, q, hd, hi, hq => by
    obtain rfl : i = P.length := by omega
    refine Ev.step' ?_
    simp only [impl_unpacked.l0]
    exact Ev.negf (by omega) (EvT (Ev.now _) (by rw [hq]; rfl))
  | d + 1, i, q, hd, hi, hq => by
    have hi' : i < P.length := by omega
    obtain ⟨i12, l1, l2, g⟩ := unG_good i q hq
    have hS := hs.get hi'
    have hP := hs.1
    have bad : ∀ b : Bool, b = true → unG P (i + 1) = none → Ev (fun k => impl_unpacked.j1 k q.1 q.2 P (P.length : Int) i b (pkAt P i).f0 (pkAt P i).f1) (resU (unG P P.length)) := fun b hb hn => by
      subst hb
      have := unG_none hn (P.length - (i + 1))
      rw [show i + 1 + (P.length - (i + 1)) = P.length by omega] at this
      rw [this]
      refine Ev.step' ?_
      simp only [impl_unpacked.j1]
      exact Ev.posf trivial (Ev.now _)
    have e1 : unG P (i + 1) = stepU P i q := by rw [unG, hq]; rfl
    refine Ev.step' ?_
    simp only [impl_unpacked.l0, rd_pk]
    refine Ev.posf (by omega) (Ev.posf (by omega) (Ev.posf (by omega) (Ev.ite (fun c => bad _ rfl ?_) (fun c => ?_))))
    · rw [e1, stepU, if_neg (by omega)]
    · simp only [within_eq, w64 (x := (i : Int) - 1) (by omega) (by omega)]
      refine Ev.somef ?_
      by_cases hw : -1 ≤ (pkAt P i).f0 ∧ (pkAt P i).f0 ≤ (i : Int) - 1
      · have hd0 := dep_pos (D := q.2) (b := (pkAt P i).f0) (fun j hj => (g j (by omega)).2.1) (by omega)
        have hb : (!(decide (-1 ≤ (pkAt P i).f0) && decide ((pkAt P i).f0 ≤ (i : Int) - 1))) = false := by simp [hw.1, hw.2]
        have hbad : (doB (bs q (pkAt P i)) (pkAt P i).f1).2 ≠ true → resU (unG P P.length) = ([], [], false) := fun hn => by
          have hn2 : unG P (i + 1) = none := by rw [e1, stepU, if_neg (fun h => hn h.2.2.2.1)]
          have := unG_none hn2 (P.length - (i + 1))
          rw [show i + 1 + (P.length - (i + 1)) = P.length by omega] at this
          rw [this]; rfl
        have hdeep : ¬ dep q.2 (pkAt P i).f0 ≤ 3 → resU (unG P P.length) = ([], [], false) := fun hn => by
          have hn2 : unG P (i + 1) = none := by rw [e1, stepU, if_neg (fun h => hn h.2.2.2.2)]
          have := unG_none hn2 (P.length - (i + 1))
          rw [show i + 1 + (P.length - (i + 1)) = P.length by omega] at this
          rw [this]; rfl
        have hgood : (doB (bs q (pkAt P i)) (pkAt P i).f1).2 = true → dep q.2 (pkAt P i).f0 ≤ 3 → Ev (fun k => impl_unpacked.l0 k (q.1 ++ [(doB (bs q (pkAt P i)) (pkAt P i).f1).1]) (q.2 ++ [dep q.2 (pkAt P i).f0]) P (P.length : Int) (wrap64 ((i : Int) + 1))) (resU (unG P P.length)) := fun h1 h2 => by
          rw [w64_succ i (by omega)]
          exact unpackAny0_ev hs d (i + 1) (q.1 ++ [(doB (bs q (pkAt P i)) (pkAt P i).f1).1], q.2 ++ [dep q.2 (pkAt P i).f0]) (by omega) (by omega) (by rw [e1, stepU, if_pos ⟨by omega, hw.1, by omega, h1, h2⟩])
        simp only [hb]
        refine Ev.step' ?_
        simp only [impl_unpacked.j1]
        refine Ev.negf (by decide) (Ev.ite (fun c0 => ?_) (fun c0 => ?_))
        · obtain ⟨b, hbq⟩ := toNat_of c0
          have hbi : b < i := by omega
          have eb : bs q (pkAt P i) = txAt q.1 b := by rw [bs, if_pos (by omega), hbq]; rfl
          have ed : dep q.2 (pkAt P i).f0 = dpAt q.2 b + 1 := by rw [dep, if_pos (by omega), hbq]; rfl
          obtain ⟨g1, g2, g3, _⟩ := g b hbi
          rw [eb, ed] at hgood
          rw [eb] at hbad
          rw [ed] at hdeep
          have hdo := implDeltaDo_ev (txAt q.1 b) (pkAt P i).f1 (textB_Sm g1) hS
          simp only [hbq, rd_tx, rd_dp, w64 (x := dpAt q.2 b + 1) (by omega) (by omega)]
          refine Ev.posf (by omega) (Ev.posf (by omega) (Ev.posf (by omega) (Ev.bind hdo (Ev.ite (fun cd => Ev.ite (fun cq => EvT (Ev.now _) (hdeep (by omega)).symm) (fun cq => Ev.posf (by omega) (Ev.posf (by omega) (hgood cd (by omega))))) (fun cd => EvT (Ev.now _) (hbad cd).symm)))))
        · have eb : bs q (pkAt P i) = [] := by rw [bs, if_neg (by omega)]
          have ed : dep q.2 (pkAt P i).f0 = 1 := by rw [dep, if_neg (by omega)]
          rw [eb, ed] at hgood
          rw [eb] at hbad
          have hdo := implDeltaDo_ev [] (pkAt P i).f1 ⟨by simp, by simp⟩ hS
          refine Ev.bind hdo (Ev.ite (fun cd => Ev.negf (by decide) (Ev.posf (by omega) (Ev.posf (by omega) (hgood cd (by omega))))) (fun cd => EvT (Ev.now _) (hbad cd).symm))
      · refine bad _ ?_ ?_
        · simp only [Bool.not_eq_true', Bool.and_eq_false_iff, decide_eq_false_iff_not]; omega
        · rw [e1, stepU, if_neg (by omega)]
theorem unpackAny_ev {P : List Pk} (hs : PkS P) : Ev (fun k => impl_unpacked.f k P) (resU (unG P P.length)) := by
  unfold impl_unpacked.f
  exact unpackAny0_ev hs _ 0 ([], []) rfl (by omega) rfl
theorem l13Do_ev {base : Tx} (hb : textB base = true) {d : List Dl} (hk : deltaB d = true) : Ev (fun k => spec_l13Do.f k base d) (doB base d) := by
  unfold spec_l13Do.f
  obtain ⟨h1, h2⟩ := deltaB_len hk
  exact EvT (specDo_ev hb d h2 (by omega) _ 0 [] (by omega) rfl (by simp) (by simp)) (by rw [doB, if_pos ⟨hb, hk⟩, List.drop_zero])
def okA (P : List Pk) : Prop := ∀ j, j < P.length → -1 ≤ (pkAt P j).f0 ∧ (pkAt P j).f0 < (j : Int) ∧ deltaB (pkAt P j).f1 = true
theorem getAny_ev {P : List Pk} (hP : P.length ≤ 1000000) (ha : okA P) : ∀ (n j : Nat), j < n → j < P.length → ∃ (t : Tx) (ok : Bool) (m : Int), Ev (fun k => spec_l13Get.f k P (j : Int)) (t, ok) ∧ (ok = true → textB t = true) ∧ 1 ≤ m ∧ m ≤ (j : Int) + 1 ∧
    ∀ c : Int, 1 ≤ c → c + m ≤ 10000000 → Ev (fun k => spec_l13Deep.l0 k P (j : Int) c) (c + m - 1)
  | 0, j, h, hj => absurd h (by omega)
  | n + 1, j, h, hj => by
    obtain ⟨a1, a2, a3⟩ := ha j hj
    by_cases c0 : (pkAt P j).f0 ≥ 0
    · obtain ⟨b, hb⟩ := toNat_of c0
      obtain ⟨t, ok, m, h1, h2, h3, h4, h5⟩ := getAny_ev hP ha n b (by omega) (by omega)
      have hd : ∀ c : Int, 1 ≤ c → c + (m + 1) ≤ 10000000 → Ev (fun k => spec_l13Deep.l0 k P (j : Int) c) (c + (m + 1) - 1) := fun c hc1 hc2 => by
        refine Ev.step' ?_
        simp only [spec_l13Deep.l0, rd_pk, hb, w64 (x := c + 1) (by omega) (by omega)]
        exact Ev.posf (by omega) (Ev.posf (by omega) (Ev.posf (by omega) (EvT (h5 (c + 1) (by omega) (by omega)) (by omega))))
      cases ok with
      | false =>
        refine ⟨[], false, m + 1, Ev.step' ?_, (fun h => by cases h), by omega, by omega, hd⟩
        simp only [spec_l13Get.f, rd_pk, hb]
        exact Ev.posf (by omega) (Ev.posf (by omega) (Ev.posf (by omega) (Ev.bind h1 (Ev.negf (by simp) (Ev.now _)))))
      | true =>
        refine ⟨(doB t (pkAt P j).f1).1, (doB t (pkAt P j).f1).2, m + 1, Ev.step' ?_, (fun h => (doB_true h).2.2.2), by omega, by omega, hd⟩
        simp only [spec_l13Get.f, rd_pk, hb]
        exact Ev.posf (by omega) (Ev.posf (by omega) (Ev.posf (by omega) (Ev.bind h1 (Ev.posf rfl (Ev.bind (l13Do_ev (h2 rfl) a3) (Ev.now _))))))
    · refine ⟨(doB [] (pkAt P j).f1).1, (doB [] (pkAt P j).f1).2, 1, Ev.step' ?_, (fun h => (doB_true h).2.2.2), by omega, by omega, fun c hc1 hc2 => Ev.step' ?_⟩
      · simp only [spec_l13Get.f, rd_pk]
        exact Ev.posf (by omega) (Ev.posf (by omega) (Ev.negf c0 (Ev.bind (l13Do_ev rfl a3) (Ev.now _))))
      · simp only [spec_l13Deep.l0, rd_pk]
        exact Ev.posf (by omega) (Ev.posf (by omega) (Ev.negf c0 (EvT (Ev.now _) (by omega))))
theorem getGU_ev {P : List Pk} {q : Un} {i : Nat} (ha : okA P) (g : GU P q i) (hi : i ≤ P.length) : ∀ (n j : Nat), j < n → j < i → Ev (fun k => spec_l13Get.f k P (j : Int)) (txAt q.1 j, true) ∧
    ∀ c : Int, 1 ≤ c → c + dpAt q.2 j ≤ 1000 → Ev (fun k => spec_l13Deep.l0 k P (j : Int) c) (c + dpAt q.2 j - 1)
  | 0, j, h, hj => absurd h (by omega)
  | n + 1, j, h, hj => by
    obtain ⟨a1, a2, a3⟩ := ha j (by omega)
    obtain ⟨_, l1, l2, gg⟩ := g
    obtain ⟨g1, g2, g3, g4, g5, g6, g7⟩ := gg j hj
    by_cases c0 : (pkAt P j).f0 ≥ 0
    · obtain ⟨b, hb⟩ := toNat_of c0
      obtain ⟨h1, h2⟩ := getGU_ev ha ⟨by assumption, l1, l2, gg⟩ hi n b (by omega) (by omega)
      have gb := gg b (by omega)
      have ed : dpAt q.2 j = dpAt q.2 b + 1 := by rw [g7, dep, if_pos (by omega), hb]; rfl
      have eb : bs q (pkAt P j) = txAt q.1 b := by rw [bs, if_pos (by omega), hb]; rfl
      rw [eb] at g6
      refine ⟨Ev.step' ?_, fun c hc1 hc2 => Ev.step' ?_⟩
      · simp only [spec_l13Get.f, rd_pk, hb]
        exact Ev.posf (by omega) (Ev.posf (by omega) (Ev.posf (by omega) (Ev.bind h1 (Ev.posf rfl (Ev.bind (l13Do_ev gb.1 a3) (EvT (Ev.now _) g6))))))
      · simp only [spec_l13Deep.l0, rd_pk, hb, w64 (x := c + 1) (by omega) (by omega)]
        exact Ev.posf (by omega) (Ev.posf (by omega) (Ev.posf (by omega) (EvT (h2 (c + 1) (by omega) (by omega)) (by omega))))
    · have ed : dpAt q.2 j = 1 := by rw [g7, dep, if_neg (by omega)]
      have eb : bs q (pkAt P j) = [] := by rw [bs, if_neg (by omega)]
      rw [eb] at g6
      refine ⟨Ev.step' ?_, fun c hc1 hc2 => Ev.step' ?_⟩
      · simp only [spec_l13Get.f, rd_pk]
        exact Ev.posf (by omega) (Ev.posf (by omega) (Ev.negf c0 (Ev.bind (l13Do_ev rfl a3) (EvT (Ev.now _) g6))))
      · simp only [spec_l13Deep.l0, rd_pk]
        exact Ev.posf (by omega) (Ev.posf (by omega) (Ev.negf c0 (EvT (Ev.now _) (by omega))))
theorem loopLong_ev {P : List Pk} (hP : P.length ≤ 1000000) (hl : 12 < P.length) (ha : okA P) : ∀ (d i : Nat), P.length - i = d → i ≤ P.length → Ev (fun k => spec_l13PackOk.l1 k P i) false
  | 0, i, hd, hi => by
    refine Ev.step' ?_
    simp only [spec_l13PackOk.l1]
    exact Ev.negf (by omega) (EvT (Ev.now _) (decide_eq_false (by omega)))
  | d + 1, i, hd, hi => by
    obtain ⟨t, ok, m, h1, h2, h3, h4, h5⟩ := getAny_ev hP ha (i + 1) i (by omega) (by omega)
    refine Ev.step' ?_
    simp only [spec_l13PackOk.l1, w64_succ i (by omega)]
    refine Ev.posf (by omega) (Ev.bind h1 ?_)
    cases ok with
    | false => exact Ev.negf (by simp) (Ev.now _)
    | true =>
      refine Ev.posf rfl (Ev.bind (a := m) ?_ (Ev.ite (fun _ => Ev.now _) (fun _ => loopLong_ev hP hl ha d (i + 1) (by omega) (by omega))))
      unfold spec_l13Deep.f
      exact EvT (h5 1 (by omega) (by omega)) (by omega)
theorem loopShort_ev {P : List Pk} (hl : P.length ≤ 12) (ha : okA P) : ∀ (d i : Nat) (q : Un), P.length - i = d → i ≤ P.length → unG P i = some q → Ev (fun k => spec_l13PackOk.l1 k P i) (resU (unG P P.length)).2.2
  | 0, i, q, hd, hi, hq => by
    obtain rfl : i = P.length := by omega
    refine Ev.step' ?_
    simp only [spec_l13PackOk.l1]
    exact Ev.negf (by omega) (EvT (Ev.now _) (by rw [hq]; exact decide_eq_true (by omega)))
  | d + 1, i, q, hd, hi, hq => by
    have hi' : i < P.length := by omega
    obtain ⟨a1, a2, a3⟩ := ha i hi'
    have g := unG_good i q hq
    have e1 : unG P (i + 1) = stepU P i q := by rw [unG, hq]; rfl
    have hno : unG P (i + 1) = none → (resU (unG P P.length)).2.2 = false := fun hn => by
      have := unG_none hn (P.length - (i + 1))
      rw [show i + 1 + (P.length - (i + 1)) = P.length by omega] at this
      rw [this]; rfl
    have hdp := dep_pos (D := q.2) (b := (pkAt P i).f0) (fun j hj => (g.2.2.2 j (by have := g.2.2.1; omega)).2.1) (by have := g.2.2.1; omega)
    have key : Ev (fun k => spec_l13Get.f k P (i : Int)) (doB (bs q (pkAt P i)) (pkAt P i).f1) ∧ (dep q.2 (pkAt P i).f0 ≤ 4 ∧ Ev (fun k => spec_l13Deep.l0 k P (i : Int) 1) (dep q.2 (pkAt P i).f0)) := by
      by_cases c0 : (pkAt P i).f0 ≥ 0
      · obtain ⟨b, hb⟩ := toNat_of c0
        obtain ⟨h1, h2⟩ := getGU_ev ha g (by omega) i b (by omega) (by omega)
        have gb := g.2.2.2 b (by omega)
        have ed : dep q.2 (pkAt P i).f0 = dpAt q.2 b + 1 := by rw [dep, if_pos (by omega), hb]; rfl
        have eb : bs q (pkAt P i) = txAt q.1 b := by rw [bs, if_pos (by omega), hb]; rfl
        rw [eb, ed]
        refine ⟨Ev.step' ?_, by omega, Ev.step' ?_⟩
        · simp only [spec_l13Get.f, rd_pk, hb]
          exact Ev.posf (by omega) (Ev.posf (by omega) (Ev.posf (by omega) (Ev.bind h1 (Ev.posf rfl (Ev.bind (l13Do_ev gb.1 a3) (Ev.now _))))))
        · simp only [spec_l13Deep.l0, rd_pk, hb, w64 (x := (1 : Int) + 1) (by omega) (by omega)]
          exact Ev.posf (by omega) (Ev.posf (by omega) (Ev.posf (by omega) (EvT (h2 (1 + 1) (by omega) (by omega)) (by omega))))
      · have ed : dep q.2 (pkAt P i).f0 = 1 := by rw [dep, if_neg (by omega)]
        have eb : bs q (pkAt P i) = [] := by rw [bs, if_neg (by omega)]
        rw [eb, ed]
        refine ⟨Ev.step' ?_, by omega, Ev.step' ?_⟩
        · simp only [spec_l13Get.f, rd_pk]
          exact Ev.posf (by omega) (Ev.posf (by omega) (Ev.negf c0 (Ev.bind (l13Do_ev rfl a3) (Ev.now _))))
        · simp only [spec_l13Deep.l0, rd_pk]
          exact Ev.posf (by omega) (Ev.posf (by omega) (Ev.negf c0 (Ev.now _)))
    refine Ev.step' ?_
    simp only [spec_l13PackOk.l1, w64_succ i (by omega)]
    refine Ev.posf (by omega) (Ev.bind key.1 (Ev.ite (fun cd => Ev.bind (a := dep q.2 (pkAt P i).f0) (by unfold spec_l13Deep.f; exact key.2.2) (Ev.ite (fun c3 => EvT (Ev.now _) (hno ?_).symm) (fun c3 => ?_))) (fun cd => EvT (Ev.now _) (hno ?_).symm)))
    · rw [e1, stepU, if_neg (fun h => by omega)]
    · exact loopShort_ev hl ha d (i + 1) _ (by omega) (by omega) (by rw [e1, stepU, if_pos ⟨by omega, a1, a2, cd, by omega⟩])
    · rw [e1, stepU, if_neg (fun h => cd h.2.2.2.1)]
theorem first_ev {P : List Pk} (hs : PkS P) {r : Bool} (h1 : okA P → Ev (fun k => spec_l13PackOk.l1 k P 0) r) (h2 : ¬ okA P → r = false) : ∀ (d i : Nat), P.length - i = d → i ≤ P.length → (∀ j, j < i → -1 ≤ (pkAt P j).f0 ∧ (pkAt P j).f0 < (j : Int) ∧ deltaB (pkAt P j).f1 = true) → Ev (fun k => spec_l13PackOk.l0 k P i) r
  | 0, i, hd, hi, hj => by
    refine Ev.step' ?_
    simp only [spec_l13PackOk.l0]
    exact Ev.negf (by omega) (h1 (fun j hlt => hj j (by omega)))
  | d + 1, i, hd, hi, hj => by
    have hP := hs.1
    refine Ev.step' ?_
    simp only [spec_l13PackOk.l0, rd_pk, w64_succ i (by omega), in_eq, w64 (x := (i : Int) - 1) (by omega) (by omega)]
    refine Ev.posf (by omega) (Ev.posf (by omega) (Ev.somef (Ev.ite (fun c => ?_) (fun c => EvT (Ev.now _) (h2 (fun ha => c ?_)).symm))))
    · simp only [Bool.and_eq_true, decide_eq_true_eq] at c
      refine Ev.bind (specOk_ev _ (hs.get (by omega))) (Ev.ite (fun c2 => first_ev hs h1 h2 d (i + 1) (by omega) (by omega) (fun j hlt => ?_)) (fun c2 => EvT (Ev.now _) (h2 (fun ha => c2 (ha i (by omega)).2.2)).symm))
      by_cases e : j = i
      · subst e; exact ⟨c.1, by omega, c2⟩
      · exact hj j (by omega)
    · obtain ⟨b1, b2, _⟩ := ha i (by omega)
      simp only [Bool.and_eq_true, decide_eq_true_eq]; omega
theorem unG_okA {P : List Pk} : ∀ (n : Nat) (q : Un), unG P n = some q → ∀ j, j < n → -1 ≤ (pkAt P j).f0 ∧ (pkAt P j).f0 < (j : Int) ∧ deltaB (pkAt P j).f1 = true := fun n q h j hj => by
  obtain ⟨_, _, _, g⟩ := unG_good n q h
  obtain ⟨_, _, _, g4, g5, g6, _⟩ := g j hj
  exact ⟨g4, g5, (doB_true (t := bs q (pkAt P j)) (by rw [g6])).2.1⟩
theorem packOkAny_ev {P : List Pk} (hs : PkS P) : Ev (fun k => spec_l13PackOk.f k P) (resU (unG P P.length)).2.2 := by
  unfold spec_l13PackOk.f
  refine first_ev hs (fun ha => ?_) (fun ha => ?_) _ 0 rfl (by omega) (fun j hj => absurd hj (by omega))
  · by_cases hl : 12 < P.length
    · refine EvT (loopLong_ev hs.1 hl ha _ 0 rfl (by omega)) ?_
      cases hu : unG P P.length with
      | none => rfl
      | some q => have := (unG_good _ q hu).1; omega
    · exact loopShort_ev (by omega) ha _ 0 ([], []) rfl (by omega) rfl
  · cases hu : unG P P.length with
    | none => rfl
    | some q => exact absurd (fun j hj => unG_okA _ q hu j hj) ha
end Go.Proofs.Ytfnhjaiioojbkaa.Q
end
section
namespace Go.Proofs.Ytfnhjaiioojbkaa.Q
open Go.RowKit Go.Proofs.YtfnhjaiioojbkaaW.PrintWords
set_option linter.unusedVariables false
set_option linter.unusedSimpArgs false
/-- The first ones' sum. -/
def psum (f : Nat → Nat) : Nat → Nat
  | 0 => 0
  | n + 1 => psum f n + f n
theorem psum_le {f h : Nat → Nat} : ∀ n, (∀ j, j < n → f j ≤ h j) → psum f n ≤ psum h n
  | 0, _ => Nat.le_refl _
  | n + 1, H => by
    have := psum_le n (fun j hj => H j (by omega))
    have := H n (by omega)
    simp only [psum]; omega
theorem psum_top {f : Nat → Nat} {c : Nat} : ∀ n, (∀ j, j < n → f j ≤ c) → psum f n ≤ c * n
  | 0, _ => by simp [psum]
  | n + 1, H => by
    have := psum_top n (fun j hj => H j (by omega))
    have := H n (by omega)
    simp only [psum, Nat.mul_succ]; omega
def pksz (P : List Pk) (j : Nat) : Nat := sz (pkAt P j).f1
theorem pk_delta {l : List Tx} {P : List Pk} {D : List Int} {n : Nat} (g : Gd l P D n) (ok : ∀ j, j < n → textB (txAt l j) = true) {j : Nat} (hj : j < n) : deltaB (pkAt P j).f1 = true := by
  obtain ⟨_, ⟨_, h, _⟩ | ⟨b, hb, _, h, _⟩⟩ := g.2.2 j hj
  · rw [h]; exact dOf_ok rfl (ok j hj)
  · rw [h]; exact dOf_ok (ok b (by omega)) (ok j hj)
theorem texts0_ev {b : List Int} (hb : Code b) : ∀ (d : Nat) (out : List Tx) (t : Tx) (p : Int), 0 ≤ p → p + 10 * d ≤ 1000000 → out.length + d ≤ 1000 → t.length ≤ 18 → Sz t → (∀ x ∈ out, x.length ≤ 18 ∧ Sz x) →
    ∃ r q, Ev (fun k => spec_l30Texts.l0 k out t d b p) (r, q) ∧ r.length = out.length + d ∧ (∀ x ∈ r, x.length ≤ 18 ∧ Sz x) ∧ p ≤ q ∧ q ≤ p + 10 * d
  | 0, out, t, p, h0, h1, h2, ht, hz, ho => by
    refine ⟨out, p, Ev.step' ?_, by omega, ho, by omega, by omega⟩
    simp only [spec_l30Texts.l0]
    exact Ev.negf (by omega) (Ev.now _)
  | d + 1, out, t, p, h0, h1, h2, ht, hz, ho => by
    obtain ⟨u, p1, hu, lu, zu, g1, g2⟩ := turn_ev hb (p := p) (by omega) (by omega) t (by omega) hz
    obtain ⟨r, q, hr, lr, hr2, q1, q2⟩ := texts0_ev hb d (out ++ [[] ++ t]) u p1 (by omega) (by omega) (by simp; omega) (by omega) zu (fun x hx => by
      rcases List.mem_append.mp hx with hx | hx
      · exact ho x hx
      · simp only [List.nil_append, List.mem_singleton] at hx
        subst hx; exact ⟨ht, hz⟩)
    refine ⟨r, q, Ev.step' ?_, by rw [lr]; simp; omega, hr2, by omega, by omega⟩
    simp only [spec_l30Texts.l0]
    rw [show wrap64 (((d + 1 : Nat) : Int) - 1) = (d : Int) by rw [w64 (by omega) (by omega)]; omega]
    exact Ev.posf (by omega) (Ev.somef (Ev.posf (by simp; omega) (Ev.posf (by omega) (Ev.bind hu hr))))
theorem texts_ev {b : List Int} (hb : Code b) {p : Int} (h0 : 0 ≤ p) (h1 : p ≤ 100000) : ∃ r q, Ev (fun k => spec_l30Texts.f k b p) (r, q) ∧ r.length ≤ 13 ∧ (∀ x ∈ r, x.length ≤ 18 ∧ Sz x) ∧ p ≤ q ∧ q ≤ p + 140 := by
  obtain ⟨t, p1, ht, lt, zt, g1, g2⟩ := text_ev hb h0 (by omega)
  obtain ⟨v, hv, hm⟩ := one_ev hb (p := p1) ⟨by omega, by omega⟩ (l := [0, 2, 5, 12, 13]) (by simp) (by simp)
  have hv8 : 0 ≤ v ∧ v ≤ 13 := by simp at hm; omega
  obtain ⟨d, rfl⟩ := toNat_of hv8.1
  obtain ⟨r, q, hr, lr, hr2, q1, q2⟩ := texts0_ev hb d [] t (p1 + 1) (by omega) (by omega) (by simp; omega) (by omega) zt (fun x hx => by cases hx)
  refine ⟨r, q, ?_, by rw [lr]; simp; omega, hr2, by omega, by omega⟩
  unfold spec_l30Texts.f
  exact Ev.bind ht (Ev.bind hv hr)
end Go.Proofs.Ytfnhjaiioojbkaa.Q
end
section
namespace Go.Proofs.Ytfnhjaiioojbkaa.Q
open Go.RowKit Go.Proofs.YtfnhjaiioojbkaaW.PrintWords
set_option linter.unusedVariables false
set_option linter.unusedSimpArgs false
def getB (P : List Pk) (a : Int) : Tx × Bool := match unG P P.length with
  | some q => if 0 ≤ a ∧ a ≤ (P.length : Int) - 1 then (txAt q.1 a.toNat, true) else ([], false)
  | none => ([], false)
theorem implGetAny_ev {P : List Pk} (hs : PkS P) (a : Int) : Ev (fun k => impl_PackGet.f k P a) (getB P a) := by
  have hP := hs.1
  have hu := unpackAny_ev hs
  unfold impl_PackGet.f
  unfold getB
  cases h : unG P P.length with
  | none =>
    rw [h] at hu
    exact Ev.bind hu (Ev.negf (by simp [resU]) (Ev.now _))
  | some q =>
    rw [h] at hu
    have g := unG_good _ q h
    simp only [within_eq, w64 (x := (P.length : Int) - 1) (by omega) (by omega)]
    refine Ev.bind hu (Ev.posf rfl (Ev.somef (Ev.ite (fun c => ?_) (fun c => ?_))))
    · simp only [Bool.and_eq_true, decide_eq_true_eq] at c
      rw [if_pos c]
      obtain ⟨j, rfl⟩ := toNat_of c.1
      exact Ev.posf (by omega) (Ev.posf (by have := g.2.1; simp only [resU]; omega) (EvT (Ev.now _) (by rw [rd_tx]; rfl)))
    · rw [if_neg (by simpa [Bool.and_eq_true, decide_eq_true_eq] using c)]
      exact Ev.now _
theorem implOkAny_ev {P : List Pk} (hs : PkS P) : Ev (fun k => impl_PackOk.f k P) (resU (unG P P.length)).2.2 := by
  unfold impl_PackOk.f
  exact Ev.bind (unpackAny_ev hs) (Ev.now _)
theorem implSum_ev {P : List Pk} (hl : P.length ≤ 12) (ok : ∀ j, j < P.length → deltaB (pkAt P j).f1 = true) : ∀ (d i : Nat), P.length - i = d → i ≤ P.length →
    Ev (fun k => impl_PackSize.l0 k (psum (pksz P) i : Int) P (P.length : Int) i) (psum (pksz P) P.length : Int)
  | 0, i, hd, hi => by
    obtain rfl : i = P.length := by omega
    refine Ev.step' ?_
    simp only [impl_PackSize.l0]
    exact Ev.negf (by omega) (Ev.now _)
  | d + 1, i, hd, hi => by
    have ih := implSum_ev hl ok d (i + 1) (by omega) (by omega)
    have hs := psum_top (f := pksz P) (c := 110) i (fun j hj => sz_le (ok j (by omega)))
    have hz := sz_le (ok i (by omega))
    refine Ev.step' ?_
    simp only [impl_PackSize.l0, rd_pk, w64_succ i (by omega)]
    refine Ev.posf (by omega) (Ev.posf (by omega) (Ev.posf (by omega) (Ev.bind (implSize_ev (ok i (by omega))) ?_)))
    simp only [w64_add (psum (pksz P) i) (sz (pkAt P i).f1) (by omega)]
    exact ih
theorem specSum_ev {P : List Pk} (hl : P.length ≤ 12) (ok : ∀ j, j < P.length → deltaB (pkAt P j).f1 = true) : ∀ (d i : Nat), P.length - i = d → i ≤ P.length →
    Ev (fun k => spec_PackSize.l0 k P (psum (pksz P) i : Int) i) (psum (pksz P) P.length : Int)
  | 0, i, hd, hi => by
    obtain rfl : i = P.length := by omega
    refine Ev.step' ?_
    simp only [spec_PackSize.l0]
    exact Ev.negf (by omega) (Ev.now _)
  | d + 1, i, hd, hi => by
    have ih := specSum_ev hl ok d (i + 1) (by omega) (by omega)
    have hs := psum_top (f := pksz P) (c := 110) i (fun j hj => sz_le (ok j (by omega)))
    have hz := sz_le (ok i (by omega))
    refine Ev.step' ?_
    simp only [spec_PackSize.l0, rd_pk, w64_succ i (by omega)]
    refine Ev.posf (by omega) (Ev.posf (by omega) (Ev.bind (specSize_ev (ok i (by omega))) ?_))
    simp only [w64_add (psum (pksz P) i) (sz (pkAt P i).f1) (by omega)]
    exact ih
def sizeB (P : List Pk) : Int := match unG P P.length with
  | some _ => (psum (pksz P) P.length : Int)
  | none => -1
theorem implSizeAny_ev {P : List Pk} (hs : PkS P) : Ev (fun k => impl_PackSize.f k P) (sizeB P) := by
  have hu := implOkAny_ev hs
  unfold impl_PackSize.f
  unfold sizeB
  cases h : unG P P.length with
  | none => rw [h] at hu; exact Ev.bind hu (Ev.negf (by simp [resU]) (Ev.now _))
  | some q =>
    rw [h] at hu
    exact Ev.bind hu (Ev.posf rfl (implSum_ev (by have := (unG_good _ q h).1; omega) (fun j hj => (unG_okA _ q h j hj).2.2) _ 0 rfl (by omega)))
theorem specSizeAny_ev {P : List Pk} (hs : PkS P) : Ev (fun k => spec_PackSize.f k P) (sizeB P) := by
  have hu := packOkAny_ev hs
  unfold spec_PackSize.f
  unfold sizeB
  cases h : unG P P.length with
  | none => rw [h] at hu; exact Ev.bind hu (Ev.negf (by simp [resU]) (Ev.now _))
  | some q =>
    rw [h] at hu
    exact Ev.bind hu (Ev.posf rfl (specSum_ev (by have := (unG_good _ q h).1; omega) (fun j hj => (unG_okA _ q h j hj).2.2) _ 0 rfl (by omega)))
theorem deltaB_Sm {d : List Dl} (h : deltaB d = true) : SmD d := ⟨by have := (deltaB_len h).1; omega, fun x hx => by
  obtain ⟨_, _, _, h3, h4⟩ := piece_ok ((deltaB_len h).2 x hx)
  exact ⟨by omega, fun s hs => by have := h4 s hs; omega⟩⟩
theorem pkAt_mem {P : List Pk} {p : Pk} (h : p ∈ P) : ∃ j, j < P.length ∧ pkAt P j = p := by
  obtain ⟨j, hj, rfl⟩ := List.mem_iff_getElem.mp h
  exact ⟨j, hj, by simp [pkAt, List.getD_eq_getElem?_getD, hj]⟩
theorem packB_ok (l : List Tx) : ∀ p ∈ packB l, deltaB p.f1 = true := fun p hp => by
  unfold packB at hp
  split at hp
  case isTrue c =>
    have g := pk_ok l l.length
    obtain ⟨j, hj, rfl⟩ := pkAt_mem hp
    exact pk_delta g (all_at c.2) (by rw [g.1] at hj; exact hj)
  case isFalse => cases hp
theorem packB_len (l : List Tx) : (packB l).length ≤ 12 := by
  unfold packB
  split
  case isTrue c => rw [(pk_ok l l.length).1]; exact c.1
  case isFalse => simp
theorem l30Pack_ev {b : List Int} (hb : Code b) {p : Int} (h0 : 0 ≤ p) (h1 : p ≤ 1000) : ∃ P q, Ev (fun k => spec_l30Pack.f k b p) (P, q) ∧ PkS P ∧ P.length ≤ 12 ∧ 0 ≤ q ∧ q ≤ 2000 := by
  obtain ⟨r, q, hr, lr, hr2, q1, q2⟩ := texts_ev hb (p := p) h0 (by omega)
  have hp := specPack_ev r (fun x hx => Sm_of (by have := (hr2 x hx).1; omega) (hr2 x hx).2)
  have hl := packB_len r
  have hk := packB_ok r
  have hS : PkS (packB r) := ⟨by omega, fun x hx => deltaB_Sm (hk x hx)⟩
  have hset : ∀ (i : Nat) (x : Pk), SmD x.f1 → PkS ((packB r).set i x) ∧ ((packB r).set i x).length ≤ 12 := fun i x hx =>
    ⟨⟨by simp; omega, fun y hy => by
      rcases List.mem_or_eq_of_mem_set hy with h | rfl
      · exact hS.2 y h
      · exact hx⟩, by simp; omega⟩
  unfold spec_l30Pack.f
  by_cases hz : ((packB r).length : Int) > 0
  · obtain ⟨v, hv, v0, v1⟩ := pick_ev hb (p := q) ⟨by omega, by omega⟩ (n := ((packB r).length : Int)) (by omega)
    obtain ⟨u, hu, u0, u1⟩ := pick_ev hb (p := q + 1) ⟨by omega, by omega⟩ (n := 14) (by omega)
    have v1' := v1 (by omega)
    obtain ⟨j, rfl⟩ := toNat_of v0
    have hj : j < (packB r).length := by omega
    have hsj := hS.get hj
    by_cases c0 : u = 0
    · obtain ⟨y, hy, hm⟩ := one_ev hb (p := q + 1 + 1) ⟨by omega, by omega⟩ (l := [-2, (j : Int), 0]) (by simp) (by simp)
      have hx := hset j ⟨y, (pkAt (packB r) j).f1⟩ hsj
      refine ⟨_, _, Ev.bind hr (Ev.bind hp (Ev.posf hz (Ev.bind hv (Ev.bind hu (Ev.posf c0 (Ev.bind hy (Ev.posf (by omega) (Ev.posf (by omega) (Ev.now _))))))))), ?_, ?_, by omega, by omega⟩
      · rw [rd_pk]; exact hx.1
      · rw [rd_pk]; exact hx.2
    · by_cases c1 : u = 1
      · have hd := deltaB_len (hk (pkAt (packB r) j) (by rw [show pkAt (packB r) j = (packB r)[j] by simp [pkAt, List.getD_eq_getElem?_getD, hj]]; exact List.getElem_mem hj))
        have hx := hset j ⟨(pkAt (packB r) j).f0, (pkAt (packB r) j).f1 ++ [⟨9, 1, []⟩]⟩ ⟨by simp; omega, fun y hy => by
          rcases List.mem_append.mp hy with h | h
          · exact hsj.2 y h
          · rw [List.mem_singleton] at h
            subst h; exact ⟨by simp, by simp⟩⟩
        refine ⟨_, _, Ev.bind hr (Ev.bind hp (Ev.posf hz (Ev.bind hv (Ev.bind hu (Ev.negf c0 (Ev.posf c1 (Ev.posf (by omega) (Ev.posf (by omega) (Ev.posf (by rw [rd_pk]; omega) (Ev.now _)))))))))), ?_, ?_, by omega, by omega⟩
        · rw [rd_pk]; exact hx.1
        · rw [rd_pk]; exact hx.2
      · exact ⟨_, _, Ev.bind hr (Ev.bind hp (Ev.posf hz (Ev.bind hv (Ev.bind hu (Ev.negf c0 (Ev.negf c1 (Ev.now _))))))), hS, hl, by omega, by omega⟩
  · exact ⟨_, _, Ev.bind hr (Ev.bind hp (Ev.negf hz (Ev.now _))), hS, hl, by omega, by omega⟩
theorem drawPackSize_ev {l : List Int} (h : ∀ x ∈ l, 0 ≤ x ∧ x ≤ 255) : ∃ P, Ev (fun k => spec_DrawPackSize.f k l) P ∧ PkS P ∧ P.length ≤ 12 := by
  obtain ⟨c, hc, hb⟩ := open_ev h
  obtain ⟨P, q, hP, hS, hl, q0, q1⟩ := l30Pack_ev hb (p := 0) (by omega) (by omega)
  unfold spec_DrawPackSize.f
  simp only [hc, Option.bind_some]
  exact ⟨P, Ev.bind hP (Ev.now _), hS, hl⟩
end Go.Proofs.Ytfnhjaiioojbkaa.Q
end
section
namespace Go.Proofs.Ytfnhjaiioojbkaa.Pure
open Go.RowKit Go.Proofs.Ytfnhjaiioojbkaa.Q Go.Proofs.YtfnhjaiioojbkaaW.PrintWords Go.Proofs.YtfnhjaiioojbkaaW.PrintLast
set_option linter.unusedVariables false
set_option linter.unusedSimpArgs false
theorem pkAt_take {P : List Pk} {i j : Nat} (h : j < i) : pkAt (P.take i) j = pkAt P j := by
  simp [pkAt, List.getD_eq_getElem?_getD, List.getElem?_take, h]
theorem unG_take (P : List Pk) (m : Nat) : ∀ i, i ≤ m → unG (P.take m) i = unG P i
  | 0, _ => rfl
  | i + 1, h => by
    rw [unG, unG, unG_take P m i (by omega)]
    congr 1
    funext q
    unfold stepU
    rw [pkAt_take (show i < m by omega)]
theorem unG_pre {P : List Pk} {m : Nat} : ∀ (d : Nat) (q : Un), unG P (m + d) = some q → ∃ q0, unG P m = some q0 ∧ ∀ j, j < m → txAt q0.1 j = txAt q.1 j
  | 0, q, h => ⟨q, h, fun _ _ => rfl⟩
  | d + 1, q, h => by
    obtain ⟨q1, h1, h2⟩ := Option.bind_eq_some_iff.mp (show (unG P (m + d)).bind (stepU P (m + d)) = some q from h)
    obtain ⟨q0, h0, hj⟩ := unG_pre d q1 h1
    refine ⟨q0, h0, fun j hlt => ?_⟩
    have l1 := (unG_good _ q1 h1).2.1
    unfold stepU at h2
    split at h2
    case isTrue c =>
      obtain rfl := Option.some.inj h2
      rw [hj j hlt]
      exact (txAt_old _ (by omega)).symm
    case isFalse => cases h2
theorem psum_more {f : Nat → Nat} {n : Nat} : ∀ d, psum f n ≤ psum f (n + d)
  | 0 => Nat.le_refl _
  | d + 1 => by rw [← Nat.add_assoc, psum]; have := psum_more (f := f) (n := n) d; omega
theorem few_ev {P : List Pk} (hs : PkS P) {q : Un} (hq : unG P P.length = some q) {m : Nat} (hm : m ≤ P.length) : ∀ (d i : Nat), m - i = d → i ≤ m →
    Ev (fun k => laws_FnPackFew.l0 k P (sizeB P) (m : Int) (P.take m) (i : Int)) true
  | 0, i, hd, hi => by
    obtain rfl : i = m := by omega
    have hl : (P.take i).length = i := by rw [List.length_take]; omega
    have hs2 : PkS (P.take i) := ⟨by have := hs.1; omega, fun p hp => hs.2 p (List.mem_of_mem_take hp)⟩
    obtain ⟨q0, h0, _⟩ := unG_pre (m := i) (P.length - i) q (by rw [show i + (P.length - i) = P.length by omega]; exact hq)
    have hu : unG (P.take i) (P.take i).length = some q0 := by rw [hl, unG_take P i i (Nat.le_refl _)]; exact h0
    have e1 : sizeB (P.take i) = (psum (pksz (P.take i)) i : Int) := by simp only [sizeB, hu]; rw [hl]
    have e2 : sizeB P = (psum (pksz P) P.length : Int) := by simp only [sizeB, hq]
    have hO := implOkAny_ev hs2
    rw [hu] at hO
    refine Ev.step' ?_
    simp only [laws_FnPackFew.l0]
    refine Ev.negf (by omega) (Ev.bind hO (Ev.posf rfl (Ev.bind (implSizeAny_ev hs2) (EvT (Ev.now _) (decide_eq_true ?_)))))
    have h1 := psum_le (f := pksz (P.take i)) (h := pksz P) i (fun j hj => by unfold pksz; rw [pkAt_take hj]; exact Nat.le_refl _)
    have h2 := psum_more (f := pksz P) (n := i) (P.length - i)
    rw [show i + (P.length - i) = P.length by omega] at h2
    rw [e1, e2]
    omega
  | d + 1, i, hd, hi => by
    have hi' : i < m := by omega
    have hl : (P.take m).length = m := by rw [List.length_take]; omega
    have hs2 : PkS (P.take m) := ⟨by have := hs.1; omega, fun p hp => hs.2 p (List.mem_of_mem_take hp)⟩
    obtain ⟨q0, h0, hj⟩ := unG_pre (m := m) (P.length - m) q (by rw [show m + (P.length - m) = P.length by omega]; exact hq)
    have hu : unG (P.take m) (P.take m).length = some q0 := by rw [hl, unG_take P m m (Nat.le_refl _)]; exact h0
    have g := unG_good _ q hq
    have e1 : getB P (i : Int) = (txAt q.1 i, true) := by simp only [getB, hq]; rw [if_pos (by omega)]; rfl
    have e2 : getB (P.take m) (i : Int) = (txAt q.1 i, true) := by simp only [getB, hu]; rw [if_pos (by rw [hl]; omega)]; rw [Int.toNat_natCast, hj i hi']
    have hI := implGetAny_ev hs (i : Int)
    have hF := implGetAny_ev hs2 (i : Int)
    rw [e1] at hI
    rw [e2] at hF
    have h12 := g.1
    refine Ev.step' ?_
    simp only [laws_FnPackFew.l0, w64_succ i (by omega)]
    exact Ev.posf (by omega) (Ev.bind hI (Ev.bind hF (Ev.posf rfl (Ev.posf rfl (Ev.bind (smTexts_refl (txAt q.1 i) (by have := textB_len (g.2.2.2 i (by omega)).1; omega)) (Ev.posf rfl (few_ev hs hq hm d (i + 1) (by omega) (by omega))))))))
theorem FnPackFew : laws_FnPackFew.Pure := by
  intro l more _ _ h _ _ _
  refine Ev.rounds (r := true) (g := fun k => laws_FnPackFew.f k l more) ?_
  obtain ⟨P, hd, hs, hl⟩ := drawPackSize_ev (bytes_of h)
  have bad : ∀ b : Bool, b = true → Ev (fun k => laws_FnPackFew.j0 k l more b) true := fun b hb => by
    subst hb
    refine Ev.step' ?_
    simp only [laws_FnPackFew.j0]
    exact Ev.posf trivial (Ev.now _)
  unfold laws_FnPackFew.f
  refine Ev.ite (fun _ => bad _ rfl) (fun _ => ?_)
  by_cases c2 : (more.length : Int) > 1048576
  · exact bad _ (decide_eq_true c2)
  · rw [show decide ((more.length : Int) > 1048576) = false from decide_eq_false c2]
    refine Ev.step' ?_
    simp only [laws_FnPackFew.j0]
    refine Ev.negf (by simp) (Ev.bind hd (Ev.bind (implSizeAny_ev hs) (Ev.bind (specSizeAny_ev hs) (Ev.posf rfl ?_))))
    refine Ev.step' ?_
    simp only [laws_FnPackFew.j1]
    cases hq : unG P P.length with
    | none =>
      have e : sizeB P = -1 := by simp only [sizeB, hq]
      have hO := implOkAny_ev hs
      rw [hq] at hO
      exact Ev.posf (by rw [e]; rfl) (Ev.bind (specSizeAny_ev hs) (Ev.posf rfl (Ev.bind hO (Ev.now _))))
    | some q =>
      have e : sizeB P = (psum (pksz P) P.length : Int) := by simp only [sizeB, hq]
      have hn : ¬ decide (sizeB P < 0) = true := by rw [e]; simp
      rw [w64_succ P.length (by omega)]
      refine Ev.negf hn (Ev.negf (by omega) ?_)
      have em : (more.length : Int) % ((P.length + 1 : Nat) : Int) = ((more.length % (P.length + 1) : Nat) : Int) := by omega
      have hm : more.length % (P.length + 1) < P.length + 1 := Nat.mod_lt _ (by omega)
      rw [em]
      refine Ev.posf (by omega) (Ev.posf (by omega) ?_)
      rw [Int.toNat_natCast]
      exact few_ev hs hq (by omega) _ 0 rfl (by omega)
end Go.Proofs.Ytfnhjaiioojbkaa.Pure
end
section
namespace Go.Proofs.YtfnhjaiioojbkaaW.PrintWords
open Go.ChangeShapes Go.WideShapes
/-- A row's slice of whole numbers is no longer than its weight allows. -/
theorem sized_ints {H : Type} {enc : TypeId × Value → H} {P : Program} {W : World} {base : Nat} {spare : Nat → Bool} {held : Bool} {t e : TypeId} {k : IntKind} {a : Option Addr} {len cap : Nat} {d : DataW H} {ps : List MemPlace} {ts : List TypeId} {ds : List (DataW H)} {j : Nat}
 (hsz : (DataW.weightsEach P ts ds).all (· ≤ reachBytes) = true) (ht : ts[j]? = some t) (hd : ds[j]? = some d) (hu : P.underlying t = some (.slice e)) (he : P.underlying e = some (.int k)) (hc : P.cellsOf e = 1) {B : Nat} (hB : P.bytesOf e = B)
 (h : DataW.Trod enc P W base spare held t (.slice a len cap) d ps) : len * B ≤ 140737488351232 := by
 obtain ⟨fuel, hf⟩ := h
 rcases open_ints hu he hc hf with ⟨hcs, _⟩ | ⟨x, l, c, zs, hcs, _, hl, _, hz, hx, _, _⟩
 ·simp [Value.cells] at hcs
  obtain ⟨rfl, rfl, rfl⟩ := hcs
  simp
 ·simp [Value.cells] at hcs
  obtain ⟨rfl, rfl, rfl⟩ := hcs
  obtain ⟨hx, _⟩ := Prod.mk.inj hx
  subst hx
  have z := sized_slice hsz ht hd hu
  rw [hB] at z
  have hl2 : len ≤ zs.length := by
   rw [hz]
   split
   ·exact hl
   ·exact Nat.le_refl _
  have h1 : (lits (H := H) k (zs.take len)).length + (lits (H := H) k (zs.drop len)).length = zs.length := by
   simp [lits]
   omega
  rw [h1] at z
  exact Nat.le_trans (Nat.mul_le_mul_right _ hl2) z
end Go.Proofs.YtfnhjaiioojbkaaW.PrintWords
end
section
namespace Go.Proofs.Ytfnhjaiioojbkaa.fnPackFew
open Go.ChangeShapes Go.WideShapes Go.ChangeAt Go.RowKit
open Go.ChangeMaps (open_string shut_string)
set_option linter.unusedVariables false
theorem own : ownKnob Try.prog.godebug = none := by kernel_rfl
theorem laidOut : laidOutB Try.prog = true := by kernel_rfl
def IsRow (k : IntKind) (w : World) (a : Option Addr) (len cap : Nat) (zs : List Int) : Prop :=
  (a = none ∧ len = 0 ∧ cap = 0 ∧ zs = []) ∨
  ∃ x, a = some x ∧ len ≤ cap ∧ cap ≤ maxLen ∧ zs.length = cap ∧ (∀ i, i < zs.length → w.cell? (x.add i) = some (.int k (zs.getD i 0))) ∧ ∀ n ∈ zs, (Lit.int k n).wf = true
set_option maxRecDepth 100000 in
theorem lifted (os : Os) (started : os.Started) (H : Type) (enc : TypeId × Value → H) :
    ReturnsInHanded {} Try.checked os 9 .any (Rows.fnPackFewSpec.pre6 enc Try.prog Try.f9 Rows.fnPackFewRow.domain false) (Rows.fnPackFewSpec.post enc Try.prog Try.f9 false true false false) := by
  refine returnsInHanded_of_change_sized (C := Try.checked) own started (by kernel_rfl) Try.func9
    (ChangeSpec.witness6 (enc := enc) (C := Try.checked) false ⟨#[], #[.slice none 0 0, .slice none 0 0], []⟩ 8 (by kernel_rfl) (by kernel_rfl) (by kernel_rfl) (by kernel_rfl)) ?_
  intro W base args ds gs before hval0 hW hcnd hsz0 _
  have hsz : (DataW.weightsEach Try.prog (Try.f9.params.toList ++ Rows.fnPackFewSpec.plain.varTypes Try.prog) (ds ++ gs)).all (· ≤ reachBytes) = true := hsz0
  have hval : ∀ (j : Nat) t v, Try.f9.params[j]? = some t → args[j]? = some v → Value.okWide Try.prog W .any base t v := hval0
  have hW' := hW
  obtain ⟨p, q, hA0, hV, rfl, hfz, hnd⟩ := hW
  have hA : DataW.TrodAll enc Try.prog W 0 (fun _ => true) true Try.f9.params.toList args.toList ds p := hA0
  rw [Try.params9] at hA hval hsz
  obtain ⟨v0, vs0, d0, ds0, p0, q0, hargs, rfl, rfl, h0, r0⟩ := trodAll_cons hA
  obtain ⟨v1, vs1, d1, ds1, p1, q1, rfl, rfl, rfl, h1, r1⟩ := trodAll_cons r0
  obtain ⟨rfl, rfl, rfl⟩ := trodAll_nil r1
  obtain rfl : args = #[v0, v1] := by cases args; simp_all
  obtain ⟨rfl, rfl⟩ := trodVars_none hV
  obtain ⟨a0, len0, cap0, rfl⟩ := okWide_slice Try.underlying29 (hval 0 29 v0 rfl rfl)
  have k0 := h0
  have lt0 : ∀ x ∈ p0, x.block < W.heap.size := by obtain ⟨m, hm⟩ := k0; exact DataW.trod_lt m _ _ _ hm
  obtain ⟨z0, w0⟩ : ∃ zs, IsRow .u8 W a0 len0 cap0 zs := by
    obtain ⟨fuel, hf⟩ := h0
    rcases open_ints Try.underlying29 Try.underlying5 (by kernel_rfl) hf with ⟨hcs, _⟩ | ⟨x, l, c, zs, hcs, _, hl, hm, hz, _, hcell, hwz⟩
    · simp [Value.cells] at hcs
      obtain ⟨rfl, rfl, rfl⟩ := hcs
      exact ⟨[], .inl ⟨rfl, rfl, rfl, rfl⟩⟩
    · simp [Value.cells] at hcs
      obtain ⟨rfl, rfl, rfl⟩ := hcs
      exact ⟨zs, .inr ⟨_, rfl, hl, hm, by simpa using hz, hcell, hwz⟩⟩
  have y0 : len0 * 1 ≤ 140737488351232 := Go.Proofs.YtfnhjaiioojbkaaW.PrintWords.sized_ints hsz (j := 0) (t := 29) rfl rfl Try.underlying29 Try.underlying5 (by kernel_rfl) (by kernel_rfl) h0
  obtain ⟨a1, len1, cap1, rfl⟩ := okWide_slice Try.underlying29 (hval 1 29 v1 rfl rfl)
  have k1 := h1
  have lt1 : ∀ x ∈ p1, x.block < W.heap.size := by obtain ⟨m, hm⟩ := k1; exact DataW.trod_lt m _ _ _ hm
  obtain ⟨z1, w1⟩ : ∃ zs, IsRow .u8 W a1 len1 cap1 zs := by
    obtain ⟨fuel, hf⟩ := h1
    rcases open_ints Try.underlying29 Try.underlying5 (by kernel_rfl) hf with ⟨hcs, _⟩ | ⟨x, l, c, zs, hcs, _, hl, hm, hz, _, hcell, hwz⟩
    · simp [Value.cells] at hcs
      obtain ⟨rfl, rfl, rfl⟩ := hcs
      exact ⟨[], .inl ⟨rfl, rfl, rfl, rfl⟩⟩
    · simp [Value.cells] at hcs
      obtain ⟨rfl, rfl, rfl⟩ := hcs
      exact ⟨zs, .inr ⟨_, rfl, hl, hm, by simpa using hz, hcell, hwz⟩⟩
  have y1 : len1 * 1 ≤ 140737488351232 := Go.Proofs.YtfnhjaiioojbkaaW.PrintWords.sized_ints hsz (j := 1) (t := 29) rfl rfl Try.underlying29 Try.underlying5 (by kernel_rfl) (by kernel_rfl) h1
  clear hA0 hval0 hsz0 hsz
  refine (Q.laws_FnPackFew.walk Pure.FnPackFew a0 len0 cap0 z0 a1 len1 cap1 z1 W w0 y0 w1 y1).mono fun e W' ⟨he, bel⟩ => ?_
  subst he
  exact ⟨_, rfl, _, _, _, [], _, [], hW', trodAll_mk1 (shut_bool Try.underlying4 _), (trodAll_cons_mk (Below.trod laidOut (by kernel_rfl) (of_decide_eq_true (by kernel_rfl)) k0 bel lt0) (trodAll_cons_mk (Below.trod laidOut (by kernel_rfl) (of_decide_eq_true (by kernel_rfl)) k1 bel lt1) trodAll_mk0)), rfl, bel.frame _, fun h => by cases h⟩
theorem over : Rows.fnPackFewRow.holds Try.pinned (OpenSpec.ofChange Rows.fnPackFewSpec) :=
  OpenClaim.holds_of_wide 9 Try.f9 rfl rfl rfl rfl rfl rfl rfl ⟨rfl, rfl, rfl, rfl, rfl⟩ rfl rfl rfl rfl rfl (by kernel_rfl) Try.func9 (by kernel_rfl)
    (of_decide_eq_true (by kernel_rfl)) (by unfold Func.isWrapper; first | (rw [if_pos (by decide +kernel)]; kernel_rfl) | (rw [if_neg (by decide +kernel)]; exact ⟨rfl, rfl⟩))
    (fun os started H enc _ => lifted os started H enc)
theorem proved : Rows.FnPackFewSaid := over
#print axioms proved
end Go.Proofs.Ytfnhjaiioojbkaa.fnPackFew
namespace Go.Proofs.Ytfnhjaiioojbkaa
/-- The row, under a short name, for the claim. -/
theorem fnPackFew_holds : Rows.FnPackFewSaid := fnPackFew.proved
end Go.Proofs.Ytfnhjaiioojbkaa
end
