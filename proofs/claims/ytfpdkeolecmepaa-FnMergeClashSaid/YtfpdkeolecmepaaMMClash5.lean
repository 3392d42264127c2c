/- FnMClash: for every argument the law returns true, and its arguments read behind the call as they read before. No conditions. -/
import Derived.SizedLaws
import Derived.ChangeSlices
import Derived.Test.YtfpdkeolecmepaaRows
import Derived.WalkKit
import Derived.ProofKit
import Derived.OpenShut
import Derived.ShutString
import Derived.ChangeOld
import Derived.Below
import Derived.Test.YtfpdkeolecmepaaMMClash0
import Derived.Test.YtfpdkeolecmepaaMMClash1
import Derived.Test.YtfpdkeolecmepaaMMClash2
import Derived.Test.YtfpdkeolecmepaaMMClash3
import Derived.Test.YtfpdkeolecmepaaMMClash4
set_option linter.unusedVariables false
set_option linter.unusedSimpArgs false
section
namespace Go.Proofs.Ytfpdkeolecmepaa.Q
open Go.RowKit Go.Proofs.YtfpdkeolecmepaaW.PrintWords Go.Proofs.YtfpdkeolecmepaaW.PrintMore
set_option linter.unusedVariables false
set_option linter.unusedSimpArgs false
/-- A row by its places. -/
def tab {α : Type} (n : Nat) (f : Nat → α) : List α := (List.range n).map f
theorem tab_len {α : Type} (n : Nat) (f : Nat → α) : (tab n f).length = n := by simp [tab]
theorem tab_at {α : Type} (n : Nat) (f : Nat → α) (i : Nat) : (tab n f)[i]? = if i < n then some (f i) else none := by
  unfold tab
  rw [List.getElem?_map]
  by_cases h : i < n
  · rw [List.getElem?_range h, if_pos h]; rfl
  · rw [List.getElem?_eq_none (by simp; omega), if_neg h]; rfl
theorem tab_rd {n : Nat} {f : Nat → Int} {i : Nat} (h : i < n) : rd (tab n f) (i : Int) = f i := by
  unfold rd
  rw [List.getD_eq_getElem?_getD, Int.toNat_natCast, tab_at, if_pos h]; rfl
theorem tab_rdL {n : Nat} {f : Nat → List Int} {i : Nat} (h : i < n) : rd_L7 (tab n f) (i : Int) = f i := by
  unfold rd_L7
  rw [List.getD_eq_getElem?_getD, Int.toNat_natCast, tab_at, if_pos h]; rfl
theorem tab_set {α : Type} {n : Nat} {f : Nat → α} {i : Nat} (v : α) : (tab n f).set i v = tab n (fun j => if j = i then v else f j) := by
  apply List.ext_getElem?
  intro j
  rw [List.getElem?_set, tab_len, tab_at, tab_at]
  by_cases h1 : i = j
  · subst h1
    by_cases h2 : i < n <;> simp [h2]
  · rw [if_neg h1]
    by_cases h2 : j < n
    · rw [if_pos h2, if_pos h2, if_neg (fun e => h1 e.symm)]
    · rw [if_neg h2, if_neg h2]
theorem tab_same {α : Type} {n : Nat} {f g : Nat → α} (h : ∀ i, i < n → f i = g i) : tab n f = tab n g := by
  unfold tab
  exact List.map_congr_left (fun i hi => h i (List.mem_range.mp hi))
theorem tab_const {α : Type} (n : Nat) (c : α) : List.replicate n c = tab n (fun _ => c) := by
  unfold tab
  rw [List.map_const', List.length_range]
theorem drop_at {α : Type} {l : List α} {i : Nat} (h : i < l.length) : l.drop i = l[i] :: l.drop (i + 1) := List.drop_eq_getElem_cons h
theorem take_at {α : Type} {l : List α} {i : Nat} (h : i < l.length) : l.take (i + 1) = l.take i ++ [l[i]] := by
  rw [List.take_add_one, List.getElem?_eq_getElem h]; rfl
theorem L_take_le (x y : List ByteArray) (i k : Nat) : L (x.take i) (y.take k) ≤ x.length := Nat.le_trans (L_le _ _).1 (by simp; omega)
theorem L_drop_le (x y : List ByteArray) (i k : Nat) : L (x.drop i) (y.drop k) ≤ x.length := Nat.le_trans (L_le _ _).1 (by simp)
def lrow (x y : List ByteArray) (i : Nat) : List Int := tab (y.length + 1) (fun j => (L (x.take i) (y.take j) : Int))
def lmid (x y : List ByteArray) (i k : Nat) : List Int := tab (y.length + 1) (fun j => if j ≤ k then (L (x.take (i + 1)) (y.take j) : Int) else (L (x.take i) (y.take j) : Int))
theorem lmid_first (x y : List ByteArray) (i : Nat) : lmid x y i 0 = lrow x y i := tab_same (fun j hj => by
  show (if j ≤ 0 then _ else _) = _
  by_cases h : j ≤ 0
  · rw [if_pos h]
    obtain rfl : j = 0 := by omega
    rw [List.take_zero, L_nil_right, L_nil_right]
  · rw [if_neg h])
theorem lmid_last (x y : List ByteArray) (i : Nat) : lmid x y i y.length = lrow x y (i + 1) := tab_same (fun j hj => by
  show (if j ≤ y.length then _ else _) = _
  rw [if_pos (by omega)])
theorem lmid_step (x y : List ByteArray) (i k : Nat) (v : Int) (hv : v = (L (x.take (i + 1)) (y.take (k + 1)) : Int)) : (lmid x y i k).set (k + 1) v = lmid x y i (k + 1) := by
  unfold lmid
  rw [tab_set]
  refine tab_same (fun j hj => ?_)
  by_cases h : j = k + 1
  · subst h
    rw [if_pos rfl, if_pos (Nat.le_refl _), hv]
  · rw [if_neg h]
    by_cases h2 : j ≤ k
    · rw [if_pos h2, if_pos (by omega)]
    · rw [if_neg h2, if_neg (by omega)]
theorem lcs1_ev {x y : List ByteArray} (hx : x.length ≤ 1000000) (hy : y.length ≤ 1000000) (i : Nat) (hi : i < x.length) (r : Int) : ∀ (d k : Nat), k ≤ y.length → y.length - k = d →
    Ev (fun K => impl_lcs.l0 K y (lrow x y (i + 1)) x x.length ((i + 1 : Nat) : Int)) r → Ev (fun K => impl_lcs.l1 K y (lmid x y i k) x[i] (L (x.take i) (y.take k)) x x.length i y y.length k) r
  | 0, k, hk, hd, H => by
    obtain rfl : k = y.length := by omega
    refine Ev.step' ?_
    simp only [impl_lcs.l1]
    rw [w64_succ i (by omega), lmid_last]
    exact Ev.negf (by omega) H
  | d + 1, k, hk, hd, H => by
    have ih := lcs1_ev hx hy i hi r d (k + 1) (by omega) (by omega) H
    have hkl : k < y.length := by omega
    have hL := L_take_le x y i k
    refine Ev.step' ?_
    simp only [impl_lcs.l1]
    rw [w64_succ k (by omega)]
    have hlen : ((lmid x y i k).length : Int) = (y.length : Int) + 1 := by unfold lmid; rw [tab_len]; omega
    have hr1 : rd (lmid x y i k) ((k + 1 : Nat) : Int) = (L (x.take i) (y.take (k + 1)) : Int) := by
      unfold lmid; rw [tab_rd (by omega), if_neg (by omega)]
    have hr0 : rd (lmid x y i k) (k : Int) = (L (x.take (i + 1)) (y.take k) : Int) := by
      unfold lmid; rw [tab_rd (by omega), if_pos (Nat.le_refl _)]
    rw [rdAt hkl, hr1, hr0, hlen]
    refine Ev.posf (by omega) (Ev.posf (by omega) (Ev.posf (by omega) (Ev.posf (by omega) (Ev.posf (by omega) ?_))))
    by_cases c : x[i].toList = y[k].toList
    · refine Ev.posf c ?_
      rw [w64 (by omega) (by omega), Int.toNat_natCast, lmid_step x y i k _ (by rw [take_at hi, take_at hkl, bstr.mp c, L_snoc_same]; omega)]
      exact ih
    · refine Ev.negf c (Ev.posf (by omega) ?_)
      rw [Int.toNat_natCast, lmid_step x y i k _ (by
        have e1 := L_snoc_diff (fun e => c (bstr.mpr e)) (x.take i) (y.take k)
        rw [← take_at hi, ← take_at hkl] at e1
        rw [e1]; unfold mx; split <;> omega)]
      exact ih
theorem lcs0_ev {x y : List ByteArray} (hx : x.length ≤ 1000000) (hy : y.length ≤ 1000000) : ∀ (d i : Nat), i ≤ x.length → x.length - i = d → Ev (fun K => impl_lcs.l0 K y (lrow x y i) x x.length i) (L x y : Int)
  | 0, i, hi, hd => by
    obtain rfl : i = x.length := by omega
    refine Ev.step' ?_
    simp only [impl_lcs.l0]
    have hlen : ((lrow x y x.length).length : Int) = (y.length : Int) + 1 := by unfold lrow; rw [tab_len]; omega
    rw [hlen]
    refine Ev.negf (by omega) (Ev.posf (by omega) (Ev.posf (by omega) (EvT (Ev.now _) ?_)))
    unfold lrow
    rw [tab_rd (by omega), List.take_length, List.take_length]
  | d + 1, i, hi, hd => by
    have ih := lcs0_ev hx hy d (i + 1) (by omega) (by omega)
    have hil : i < x.length := by omega
    have h1 := lcs1_ev hx hy i hil _ _ 0 (Nat.zero_le _) rfl ih
    refine Ev.step' ?_
    simp only [impl_lcs.l0]
    rw [rdAt hil]
    refine Ev.posf (by omega) (Ev.posf (by omega) (Ev.posf (by omega) ?_))
    rw [lmid_first, List.take_zero, L_nil_right] at h1
    exact h1
theorem lcs_ev {x y : List ByteArray} (hx : x.length ≤ 1000000) (hy : y.length ≤ 1000000) : Ev (fun k => impl_lcs.f k x y) (L x y : Int) := by
  unfold impl_lcs.f
  rw [w64_succ _ (by omega)]
  refine Ev.posf (by omega) (Ev.posf (by omega) ?_)
  have h := lcs0_ev hx hy _ 0 (Nat.zero_le _) rfl
  have e : List.replicate (((y.length + 1 : Nat) : Int)).toNat (0 : Int) = lrow x y 0 := by
    rw [Int.toNat_natCast, tab_const]
    exact tab_same (fun j hj => by rw [List.take_zero, L_nil_left]; rfl)
  rw [e]
  exact h
/-- The program's match, from line i of the first text and line j of the second one on. -/
theorem match0_ev {a b : List ByteArray} (ha : a.length ≤ 1000000) (hb : b.length ≤ 1000000) : ∀ (d i j : Nat) (out : List Int), i ≤ a.length → j ≤ b.length → (a.length - i) + (b.length - j) ≤ d → out.length ≤ i →
    Ev (fun K => impl_match.l0 K a b out j i) (out ++ mtc (a.drop i) (b.drop j) j)
  | d, i, j, out, hi, hj, hd, ho => by
    by_cases hia : i < a.length
    case neg =>
      refine Ev.step' ?_
      simp only [impl_match.l0]
      rw [List.drop_eq_nil_of_le (by omega : a.length ≤ i), mtc, List.append_nil]
      exact Ev.negf (by omega) (Ev.now _)
    case pos =>
    obtain ⟨d, rfl⟩ : ∃ e, d = e + 1 := ⟨d - 1, by omega⟩
    have w1 := w64_succ i (by omega)
    have w2 := w64_succ j (by omega)
    have hnone : Ev (fun K => impl_match.l0 K a b (out ++ [(-1)]) j ((i + 1 : Nat) : Int)) (out ++ (-1 :: mtc (a.drop (i + 1)) (b.drop j) j)) := by
      have h := match0_ev ha hb d (i + 1) j (out ++ [(-1)]) (by omega) hj (by omega) (by simp; omega)
      rwa [List.append_assoc, List.singleton_append] at h
    refine Ev.step' ?_
    simp only [impl_match.l0]
    refine Ev.posf (by omega) ?_
    by_cases hjb : j < b.length
    · refine Ev.posf (by omega) (Ev.posf (by omega) (Ev.posf (by omega) (Ev.step' ?_)))
      simp only [impl_match.j1]
      rw [rdAt hia, rdAt hjb, w1, w2]
      by_cases c : a[i].toList = b[j].toList
      · have c2 := bstr.mp c
        refine Ev.posf (by simpa using c) (Ev.posf (by omega) ?_)
        have h := match0_ev ha hb d (i + 1) (j + 1) (out ++ [(j : Int)]) (by omega) (by omega) (by omega) (by simp; omega)
        rw [drop_at hia, drop_at hjb, mtc, if_pos c2]
        rwa [List.append_assoc, List.singleton_append] at h
      · have c2 : ¬ a[i] = b[j] := fun e => c (bstr.mpr e)
        refine Ev.negf (by simpa using c) (Ev.negf (by omega) (Ev.posf (by omega) (Ev.posf (by omega) (Ev.posf (by omega) (Ev.posf (by omega) ?_)))))
        refine Ev.bind (lcs_ev (by simp; omega) (by simp; omega)) (Ev.posf (by omega) (Ev.posf (by omega) (Ev.posf (by omega) (Ev.posf (by omega) (Ev.bind (lcs_ev (by simp; omega) (by simp; omega)) ?_)))))
        simp only [Int.toNat_natCast]
        by_cases g : L (a.drop i) (b.drop (j + 1)) ≤ L (a.drop (i + 1)) (b.drop j)
        · refine Ev.posf (by omega) (Ev.posf (by omega) ?_)
          rw [drop_at hia, drop_at hjb] at g ⊢
          rw [mtc, if_neg c2, if_pos g, ← drop_at hjb]
          exact hnone
        · refine Ev.negf (by omega) ?_
          have h := match0_ev ha hb d i (j + 1) out (by omega) (by omega) (by omega) ho
          rw [drop_at hia, drop_at hjb] at g ⊢
          rw [mtc, if_neg c2, if_neg g, ← drop_at hia]
          exact h
    · refine Ev.negf (by omega) (Ev.step' ?_)
      simp only [impl_match.j1]
      rw [w1]
      refine Ev.negf (by decide) (Ev.posf (by omega) (Ev.posf (by omega) ?_))
      rw [drop_at hia, List.drop_eq_nil_of_le (by omega : b.length ≤ j), mtc]
      rw [List.drop_eq_nil_of_le (by omega : b.length ≤ j)] at hnone
      exact hnone
termination_by d => d
theorem match_ev {a b : List ByteArray} (ha : a.length ≤ 1000000) (hb : b.length ≤ 1000000) : Ev (fun K => impl_match.f K a b) (mtc a b 0) := by
  have h := match0_ev ha hb _ 0 0 [] (Nat.zero_le _) (Nat.zero_le _) (Nat.le_refl _) (by simp)
  unfold impl_match.f
  exact h
end Go.Proofs.Ytfpdkeolecmepaa.Q
end
section
namespace Go.Proofs.Ytfpdkeolecmepaa.Q
open Go.RowKit Go.Proofs.YtfpdkeolecmepaaW.PrintWords Go.Proofs.YtfpdkeolecmepaaW.PrintMore
set_option linter.unusedVariables false
set_option linter.unusedSimpArgs false
/-- The table while it is filled: the rows from p on, and the row ahead of them from place q on. -/
def tb (a b : List ByteArray) (p q : Nat) : List (List Int) := tab (a.length + 1) (fun i => tab (b.length + 1) (fun j => if p ≤ i ∨ (i + 1 = p ∧ q ≤ j) then (L (a.drop i) (b.drop j) : Int) else 0))
theorem L_end_left (a b : List ByteArray) (i j : Nat) (h : a.length ≤ i) : L (a.drop i) (b.drop j) = 0 := by rw [List.drop_eq_nil_of_le h, L_nil_left]
theorem L_end_right (a b : List ByteArray) (i j : Nat) (h : b.length ≤ j) : L (a.drop i) (b.drop j) = 0 := by rw [List.drop_eq_nil_of_le h, L_nil_right]
theorem tb_rd {a b : List ByteArray} {p q i j : Nat} (hi : i ≤ a.length) (hj : j ≤ b.length) (h : p ≤ i ∨ (i + 1 = p ∧ q ≤ j)) : rd (rd_L7 (tb a b p q) (i : Int)) (j : Int) = (L (a.drop i) (b.drop j) : Int) := by
  unfold tb
  rw [tab_rdL (by omega), tab_rd (by omega), if_pos h]
theorem tb_len (a b : List ByteArray) (p q : Nat) : (tb a b p q).length = a.length + 1 := tab_len _ _
theorem tb_rlen {a b : List ByteArray} {p q i : Nat} (hi : i ≤ a.length) : (rd_L7 (tb a b p q) (i : Int)).length = b.length + 1 := by
  unfold tb
  rw [tab_rdL (by omega), tab_len]
theorem tb_first (a b : List ByteArray) : List.replicate (a.length + 1) (List.replicate (b.length + 1) (0 : Int)) = tb a b a.length b.length := by
  unfold tb
  rw [tab_const, tab_const]
  refine tab_same (fun i hi => tab_same (fun j hj => ?_))
  split
  · rename_i h
    rcases h with h | h
    · rw [L_end_left _ _ _ _ h]; rfl
    · rw [L_end_right _ _ _ _ h.2]; rfl
  · rfl
theorem tb_next (a b : List ByteArray) (p : Nat) : tb a b (p + 1) 0 = tb a b p b.length := by
  unfold tb
  refine tab_same (fun i hi => tab_same (fun j hj => ?_))
  by_cases h : p ≤ i
  · rw [if_pos (by omega), if_pos (.inl h)]
  · rw [if_neg (by omega)]
    split
    · rename_i h2
      rcases h2 with h2 | h2
      · exact absurd h2 h
      · rw [L_end_right _ _ _ _ h2.2]; rfl
    · rfl
theorem tb_set {a b : List ByteArray} {p q : Nat} (hp : p ≤ a.length) (v : Int) (hv : v = (L (a.drop p) (b.drop q) : Int)) : (tb a b (p + 1) (q + 1)).set p ((rd_L7 (tb a b (p + 1) (q + 1)) (p : Int)).set q v) = tb a b (p + 1) q := by
  have e : rd_L7 (tb a b (p + 1) (q + 1)) (p : Int) = tab (b.length + 1) (fun j => if p + 1 ≤ p ∨ (p + 1 = p + 1 ∧ q + 1 ≤ j) then (L (a.drop p) (b.drop j) : Int) else 0) := by
    unfold tb
    rw [tab_rdL (by omega)]
  rw [e, tab_set]
  unfold tb
  rw [tab_set]
  refine tab_same (fun i hi => ?_)
  by_cases h : i = p
  · subst h
    rw [if_pos rfl]
    refine tab_same (fun j hj => ?_)
    by_cases g : j = q
    · subst g
      rw [if_pos rfl, if_pos (by omega), hv]
    · rw [if_neg g]
      by_cases g2 : q ≤ j
      · rw [if_pos (by omega), if_pos (by omega)]
      · rw [if_neg (by omega), if_neg (by omega)]
  · rw [if_neg h]
    refine tab_same (fun j hj => ?_)
    by_cases g : p + 1 ≤ i
    · rw [if_pos (.inl g), if_pos (.inl g)]
    · rw [if_neg (by omega), if_neg (by omega)]
theorem tbl2_ev {a b : List ByteArray} (ha : a.length ≤ 1000000) (hb : b.length ≤ 1000000) (p : Nat) (hp : p < a.length) (r : List (List Int)) (H : Ev (fun K => spec_l1Table.l1 K a b (tb a b (p + 1) 0) ((p : Int) - 1)) r) : ∀ q : Nat, q ≤ b.length →
    Ev (fun K => spec_l1Table.l2 K a b (tb a b (p + 1) q) p ((q : Int) - 1)) r
  | 0, hq => by
    refine Ev.step' ?_
    simp only [spec_l1Table.l2]
    rw [w64 (x := (p : Int) - 1) (by omega) (by omega)]
    exact Ev.negf (by omega) H
  | q + 1, hq => by
    have ih := tbl2_ev ha hb p hp r H q (by omega)
    have hqb : q < b.length := by omega
    refine Ev.step' ?_
    simp only [spec_l1Table.l2]
    have e0 : ((q + 1 : Nat) : Int) - 1 = (q : Int) := by omega
    rw [e0, w64_succ p (by omega), w64_succ q (by omega), w64 (x := (q : Int) - 1) (by omega) (by omega), rdAt hp, rdAt hqb, tb_len, tb_rlen (i := p) (by omega), tb_rlen (i := p + 1) (by omega), tb_rd (i := p + 1) (j := q + 1) (by omega) (by omega) (.inl (Nat.le_refl _)),
      tb_rd (i := p + 1) (j := q) (by omega) (by omega) (.inl (Nat.le_refl _)), tb_rd (i := p) (j := q + 1) (by omega) (by omega) (.inr ⟨rfl, Nat.le_refl _⟩)]
    have hL := L_drop_le a b (p + 1) (q + 1)
    refine Ev.posf (by omega) (Ev.posf (by omega) (Ev.posf (by omega) (Ev.posf (by omega) (Ev.posf (by omega) ?_))))
    simp only [Int.toNat_natCast]
    by_cases c : a[p].toList = b[q].toList
    · refine Ev.posf c (Ev.posf (by omega) (Ev.posf (by omega) (Ev.posf (by omega) (Ev.posf (by omega) (Ev.posf (by omega) (Ev.posf (by omega) ?_))))))
      rw [w64 (by omega) (by omega), tb_set (by omega) _ (by rw [drop_at hp, drop_at hqb, bstr.mp c, L_same]; omega)]
      exact ih
    · have e1 := L_diff (fun e => c (bstr.mpr e)) (a.drop (p + 1)) (b.drop (q + 1))
      rw [← drop_at hp, ← drop_at hqb] at e1
      refine Ev.negf c (Ev.posf (by omega) (Ev.posf (by omega) (Ev.posf (by omega) (Ev.posf (by omega) (Ev.posf (by omega) (Ev.posf (by omega) ?_))))))
      by_cases g : L (a.drop p) (b.drop (q + 1)) ≤ L (a.drop (p + 1)) (b.drop q)
      · refine Ev.posf (by omega) (Ev.posf (by omega) ?_)
        rw [tb_set (by omega) _ (by rw [e1]; omega)]
        exact ih
      · refine Ev.negf (by omega) (Ev.posf (by omega) ?_)
        rw [tb_set (by omega) _ (by rw [e1]; omega)]
        exact ih
theorem tbl1_ev {a b : List ByteArray} (ha : a.length ≤ 1000000) (hb : b.length ≤ 1000000) : ∀ p : Nat, p ≤ a.length → Ev (fun K => spec_l1Table.l1 K a b (tb a b p b.length) ((p : Int) - 1)) (tb a b 0 b.length)
  | 0, hp => by
    refine Ev.step' ?_
    simp only [spec_l1Table.l1]
    exact Ev.negf (by omega) (Ev.now _)
  | p + 1, hp => by
    have ih := tbl1_ev ha hb p (by omega)
    rw [← tb_next] at ih
    have h := tbl2_ev ha hb p (by omega) _ ih b.length (Nat.le_refl _)
    refine Ev.step' ?_
    simp only [spec_l1Table.l1]
    have e0 : ((p + 1 : Nat) : Int) - 1 = (p : Int) := by omega
    rw [e0, w64 (x := (b.length : Int) - 1) (by omega) (by omega)]
    exact Ev.posf (by omega) h
theorem tbl0_ev {a b : List ByteArray} (ha : a.length ≤ 1000000) (hb : b.length ≤ 1000000) : ∀ (d i : Nat), i ≤ a.length + 1 → a.length + 1 - i = d → Ev (fun K => spec_l1Table.l0 K a b (List.replicate i (List.replicate (b.length + 1) (0 : Int))) i) (tb a b 0 b.length)
  | 0, i, hi, hd => by
    obtain rfl : i = a.length + 1 := by omega
    refine Ev.step' ?_
    simp only [spec_l1Table.l0]
    rw [tb_first, w64 (x := (a.length : Int) - 1) (by omega) (by omega)]
    exact Ev.negf (by omega) (tbl1_ev ha hb a.length (Nat.le_refl _))
  | d + 1, i, hi, hd => by
    have ih := tbl0_ev ha hb d (i + 1) (by omega) (by omega)
    refine Ev.step' ?_
    simp only [spec_l1Table.l0]
    rw [w64_succ i (by omega), w64_succ b.length (by omega), List.length_replicate, Int.toNat_natCast]
    refine Ev.posf (by omega) (Ev.posf (by omega) (Ev.posf (by omega) (Ev.posf (by omega) ?_)))
    rw [List.replicate_succ'] at ih
    exact ih
theorem tbl_ev {a b : List ByteArray} (ha : a.length ≤ 1000000) (hb : b.length ≤ 1000000) : Ev (fun K => spec_l1Table.f K a b) (tb a b 0 b.length) := by
  have h := tbl0_ev ha hb _ 0 (Nat.zero_le _) rfl
  unfold spec_l1Table.f
  exact h
/-- The reference's match, from line i of the first text and line j of the second one on. -/
theorem smatch0_ev {a b : List ByteArray} (ha : a.length ≤ 1000000) (hb : b.length ≤ 1000000) : ∀ (d i j : Nat) (out : List Int), i ≤ a.length → j ≤ b.length → (a.length - i) + (b.length - j) ≤ d → out.length ≤ i →
    Ev (fun K => spec_l1Match.l0 K a b (tb a b 0 b.length) out j i) (out ++ mtc (a.drop i) (b.drop j) j)
  | d, i, j, out, hi, hj, hd, ho => by
    by_cases hia : i < a.length
    case neg =>
      refine Ev.step' ?_
      simp only [spec_l1Match.l0]
      rw [List.drop_eq_nil_of_le (by omega : a.length ≤ i), mtc, List.append_nil]
      exact Ev.negf (by omega) (Ev.now _)
    case pos =>
    obtain ⟨d, rfl⟩ : ∃ e, d = e + 1 := ⟨d - 1, by omega⟩
    have w1 := w64_succ i (by omega)
    have w2 := w64_succ j (by omega)
    have hnone : Ev (fun K => spec_l1Match.l0 K a b (tb a b 0 b.length) (out ++ [(-1)]) j ((i + 1 : Nat) : Int)) (out ++ (-1 :: mtc (a.drop (i + 1)) (b.drop j) j)) := by
      have h := smatch0_ev ha hb d (i + 1) j (out ++ [(-1)]) (by omega) hj (by omega) (by simp; omega)
      rwa [List.append_assoc, List.singleton_append] at h
    refine Ev.step' ?_
    simp only [spec_l1Match.l0]
    refine Ev.posf (by omega) ?_
    by_cases hjb : j < b.length
    · refine Ev.posf (by omega) (Ev.posf (by omega) (Ev.posf (by omega) (Ev.step' ?_)))
      simp only [spec_l1Match.j1]
      rw [rdAt hia, rdAt hjb, w1, w2]
      by_cases c : a[i].toList = b[j].toList
      · have c2 := bstr.mp c
        refine Ev.posf (by simpa using c) (Ev.posf (by omega) ?_)
        have h := smatch0_ev ha hb d (i + 1) (j + 1) (out ++ [(j : Int)]) (by omega) (by omega) (by omega) (by simp; omega)
        rw [drop_at hia, drop_at hjb, mtc, if_pos c2]
        rwa [List.append_assoc, List.singleton_append] at h
      · have c2 : ¬ a[i] = b[j] := fun e => c (bstr.mpr e)
        rw [tb_len, tb_rlen (i := i) (by omega), tb_rlen (i := i + 1) (by omega), tb_rd (i := i + 1) (j := j) (by omega) (by omega) (.inl (Nat.zero_le _)), tb_rd (i := i) (j := j + 1) (by omega) (by omega) (.inl (Nat.zero_le _))]
        refine Ev.negf (by simpa using c) (Ev.negf (by omega) (Ev.posf (by omega) (Ev.posf (by omega) (Ev.posf (by omega) (Ev.posf (by omega) (Ev.posf (by omega) (Ev.posf (by omega) (Ev.posf (by omega) (Ev.posf (by omega) ?_)))))))))
        by_cases g : L (a.drop i) (b.drop (j + 1)) ≤ L (a.drop (i + 1)) (b.drop j)
        · refine Ev.posf (by omega) (Ev.posf (by omega) ?_)
          rw [drop_at hia, drop_at hjb] at g ⊢
          rw [mtc, if_neg c2, if_pos g, ← drop_at hjb]
          exact hnone
        · refine Ev.negf (by omega) ?_
          have h := smatch0_ev ha hb d i (j + 1) out (by omega) (by omega) (by omega) ho
          rw [drop_at hia, drop_at hjb] at g ⊢
          rw [mtc, if_neg c2, if_neg g, ← drop_at hia]
          exact h
    · refine Ev.negf (by omega) (Ev.step' ?_)
      simp only [spec_l1Match.j1]
      rw [w1]
      refine Ev.negf (by decide) (Ev.posf (by omega) (Ev.posf (by omega) ?_))
      rw [drop_at hia, List.drop_eq_nil_of_le (by omega : b.length ≤ j), mtc]
      rw [List.drop_eq_nil_of_le (by omega : b.length ≤ j)] at hnone
      exact hnone
termination_by d => d
theorem smatch_ev {a b : List ByteArray} (ha : a.length ≤ 1000000) (hb : b.length ≤ 1000000) : Ev (fun K => spec_l1Match.f K a b) (mtc a b 0) := by
  have h := smatch0_ev ha hb _ 0 0 [] (Nat.zero_le _) (Nat.zero_le _) (Nat.le_refl _) (by simp)
  unfold spec_l1Match.f
  exact Ev.bind (tbl_ev ha hb) h
end Go.Proofs.Ytfpdkeolecmepaa.Q
end
section
namespace Go.Proofs.Ytfpdkeolecmepaa.Q
open Go.RowKit Go.Proofs.YtfpdkeolecmepaaW.PrintWords
set_option linter.unusedVariables false
set_option linter.unusedSimpArgs false
/-- A code: not long, of bytes. -/
def Code (b : List Int) : Prop := b.length ≤ 2000 ∧ ∀ x ∈ b, 0 ≤ x ∧ x ≤ 255
theorem Code.rd {b : List Int} (h : Code b) (i : Int) : 0 ≤ rd b i ∧ rd b i ≤ 255 := by
  show 0 ≤ b.getD i.toNat 0 ∧ b.getD i.toNat 0 ≤ 255
  rw [List.getD_eq_getElem?_getD]
  by_cases hi : i.toNat < b.length
  · simp [hi]
    exact h.2 _ (List.getElem_mem hi)
  · simp [hi]
/-- A place in a code that is far from the end of the numbers. -/
def Pl (p : Int) : Prop := 0 ≤ p ∧ p ≤ 1000000000
theorem tmod_in {x n : Int} (hx : 0 ≤ x) (hn : 1 ≤ n) : 0 ≤ Int.tmod x n ∧ Int.tmod x n < n := by
  rw [Int.tmod_eq_emod_of_nonneg hx]
  exact ⟨Int.emod_nonneg _ (by omega), Int.emod_lt_of_pos _ (by omega)⟩
theorem pick_ev {b : List Int} (hb : Code b) {p : Int} (hp : Pl p) {n : Int} (hn : n ≤ 1000000) :
    ∃ v, Ev (fun k => spec_l30Rd_pick.f k b p n) (v, p + 1) ∧ 0 ≤ v ∧ (1 ≤ n → v < n) := by
  have e1 : wrap64 (p + 1) = p + 1 := w64 (by have := hp.1; omega) (by have := hp.2; omega)
  have e2 : wrap64 (p + 1 - 1) = p := by rw [show p + 1 - 1 = p by omega]; exact w64 (by have := hp.1; omega) (by have := hp.2; omega)
  by_cases h1 : n < 1
  · refine ⟨0, ⟨1, fun k hk => ?_⟩, by omega, by omega⟩
    obtain ⟨m, rfl⟩ : ∃ m, k = m + 1 := ⟨k - 1, by omega⟩
    simp only [spec_l30Rd_pick.f]
    rw [if_pos h1]
    simp only [spec_l30Rd_pick.j0]
    rw [if_pos trivial, e1]
  · by_cases h2 : (b.length : Int) = 0
    · refine ⟨0, ⟨1, fun k hk => ?_⟩, by omega, by omega⟩
      obtain ⟨m, rfl⟩ : ∃ m, k = m + 1 := ⟨k - 1, by omega⟩
      simp only [spec_l30Rd_pick.f]
      rw [if_neg h1]
      simp only [spec_l30Rd_pick.j0]
      rw [if_pos (by simpa using h2), e1]
    · have hL1 : 1 ≤ (b.length : Int) := by omega
      have hL2 : (b.length : Int) ≤ 2000 := by have := hb.1; omega
      have e3 : wrap64 (p * 7) = p * 7 := w64 (by have := hp.1; omega) (by have := hp.2; omega)
      have e4 : wrap64 (p * 7 + 3) = p * 7 + 3 := w64 (by have := hp.1; omega) (by have := hp.2; omega)
      have m1 := tmod_in hp.1 hL1
      have m2 := tmod_in (x := p * 7 + 3) (by have := hp.1; omega) hL1
      by_cases h3 : p < (b.length : Int)
      · have hA := hb.rd p
        have e5 : wrap64 (rd b p) = rd b p := w64 (by omega) (by omega)
        have m3 := tmod_in hA.1 (n := n) (by omega)
        refine ⟨Int.tmod (rd b p) n, ⟨1, fun k hk => ?_⟩, m3.1, fun _ => m3.2⟩
        obtain ⟨m, rfl⟩ : ∃ m, k = m + 1 := ⟨k - 1, by omega⟩
        simp only [spec_l30Rd_pick.f]
        rw [if_neg h1]
        simp only [spec_l30Rd_pick.j0]
        rw [if_neg (by simpa using h2), e1, e2, if_pos h3, if_pos hp.1, if_neg (by omega), e5]
      · have hA := hb.rd (Int.tmod p b.length)
        have hB := hb.rd (Int.tmod (p * 7 + 3) b.length)
        have f1 : wrap64 (rd b (Int.tmod p b.length)) = rd b (Int.tmod p b.length) := w64 (by omega) (by omega)
        have f2 : wrap64 (rd b (Int.tmod (p * 7 + 3) b.length)) = rd b (Int.tmod (p * 7 + 3) b.length) := w64 (by omega) (by omega)
        have hD : 0 ≤ Int.tdiv p b.length ∧ Int.tdiv p b.length ≤ 1000000000 := by
          rw [Int.tdiv_eq_ediv_of_nonneg hp.1]
          exact ⟨Int.ediv_nonneg hp.1 (by omega), Int.le_trans (Int.ediv_le_self _ hp.1) hp.2⟩
        have g1 : wrap64 (rd b (Int.tmod p b.length) * 131) = rd b (Int.tmod p b.length) * 131 := w64 (by omega) (by omega)
        have g2 : wrap64 (rd b (Int.tmod (p * 7 + 3) b.length) * 1117) = rd b (Int.tmod (p * 7 + 3) b.length) * 1117 := w64 (by omega) (by omega)
        have g3 : wrap64 (p * 29) = p * 29 := w64 (by have := hp.1; omega) (by have := hp.2; omega)
        have g4 : wrap64 (Int.tdiv p b.length) = Int.tdiv p b.length := w64 (by omega) (by omega)
        have g5 : wrap64 (Int.tdiv p b.length * 53) = Int.tdiv p b.length * 53 := w64 (by omega) (by omega)
        have g6 : wrap64 (rd b (Int.tmod p b.length) * 131 + rd b (Int.tmod (p * 7 + 3) b.length) * 1117) = rd b (Int.tmod p b.length) * 131 + rd b (Int.tmod (p * 7 + 3) b.length) * 1117 := w64 (by omega) (by omega)
        have g7 : wrap64 (rd b (Int.tmod p b.length) * 131 + rd b (Int.tmod (p * 7 + 3) b.length) * 1117 + p * 29) = rd b (Int.tmod p b.length) * 131 + rd b (Int.tmod (p * 7 + 3) b.length) * 1117 + p * 29 := w64 (by have := hp.1; omega) (by have := hp.2; omega)
        obtain ⟨X, hX⟩ : ∃ X, X = rd b (Int.tmod p b.length) * 131 + rd b (Int.tmod (p * 7 + 3) b.length) * 1117 + p * 29 + Int.tdiv p b.length * 53 := ⟨_, rfl⟩
        have hX0 : 0 ≤ X ∧ X ≤ 1000000000000 := by have := hp.1; have := hp.2; omega
        have hY : 0 ≤ Int.tdiv X 64 ∧ Int.tdiv X 64 ≤ 1000000000000 := by
          rw [Int.tdiv_eq_ediv_of_nonneg hX0.1]
          omega
        have g8 : wrap64 X = X := w64 (by omega) (by omega)
        have g9 : wrap64 (Int.tdiv X 64) = Int.tdiv X 64 := w64 (by omega) (by omega)
        have hx := xor_nn hX0.1 hY.1 (by omega) (by omega)
        have m3 := tmod_in hx.1 (n := n) (by omega)
        refine ⟨Int.tmod (Go.bits .xor .i64 X (Int.tdiv X 64)) n, ⟨1, fun k hk => ?_⟩, m3.1, fun _ => m3.2⟩
        obtain ⟨m, rfl⟩ : ∃ m, k = m + 1 := ⟨k - 1, by omega⟩
        simp only [spec_l30Rd_pick.f]
        rw [if_neg h1]
        simp only [spec_l30Rd_pick.j0]
        rw [if_neg (by simpa using h2)]
        simp only [e1, e2, e3, e4, f1, f2, g1, g2, g3, g4, g5, g6, g7, g8, ← hX, g9]
        rw [if_neg h3, if_neg h2, if_pos m1.1, if_pos m1.2, if_pos m2.1, if_pos m2.2, if_neg (by omega)]
theorem of_ev {b : List Int} (hb : Code b) {p : Int} (hp : Pl p) {l : List ByteArray} (h0 : 0 < l.length) (hn : l.length ≤ 1000000) :
    ∃ s, Ev (fun k => spec_l30Rd_of.f k b p l) (s, p + 1) ∧ s ∈ l := by
  obtain ⟨v, hv, h1, h2⟩ := pick_ev hb hp (n := l.length) (by omega)
  obtain ⟨i, rfl⟩ := toNat_of h1
  have hi : i < l.length := by omega
  refine ⟨l[i], ?_, List.getElem_mem hi⟩
  unfold spec_l30Rd_of.f
  refine Ev.bind hv ?_
  refine Ev.posf h1 (Ev.posf (by show ((i : Int)) < _; omega) ?_)
  rw [rdAt hi]
  exact Ev.now _
theorem one_ev {b : List Int} (hb : Code b) {p : Int} (hp : Pl p) {l : List Int} (h0 : 0 < l.length) (hn : l.length ≤ 1000000) :
    ∃ s, Ev (fun k => spec_l30Rd_one.f k b p l) (s, p + 1) ∧ s ∈ l := by
  obtain ⟨v, hv, h1, h2⟩ := pick_ev hb hp (n := l.length) (by omega)
  obtain ⟨i, rfl⟩ := toNat_of h1
  have hi : i < l.length := by omega
  refine ⟨l[i], ?_, List.getElem_mem hi⟩
  unfold spec_l30Rd_one.f
  refine Ev.bind hv ?_
  refine Ev.posf h1 (Ev.posf (by show ((i : Int)) < _; omega) ?_)
  rw [rdI hi]
  exact Ev.now _
theorem line_ev {b : List Int} (hb : Code b) {p : Int} (hp : Pl p) : ∃ s, Ev (fun k => spec_l30Line.f k b p) (s, p + 1) ∧ s.size ≤ 100 := by
  unfold spec_l30Line.f
  obtain ⟨s, hs, hm⟩ := of_ev hb hp (l := [⟨#[97]⟩, ⟨#[98]⟩, ⟨#[99]⟩, ⟨#[100]⟩, ⟨#[]⟩, ⟨#[120, 32, 121]⟩, ⟨#[115, 101, 101, 32, 97]⟩, ⟨#[115, 101, 101, 32, 100, 47, 101]⟩, ⟨#[101, 110, 100]⟩]) (by simp) (by simp)
  refine ⟨s, Ev.bind hs (Ev.now _), ?_⟩
  simp only [List.mem_cons, List.not_mem_nil, or_false] at hm
  rcases hm with rfl | rfl | rfl | rfl | rfl | rfl | rfl | rfl | rfl <;> decide
theorem Pl.add {p : Int} (h : 0 ≤ p ∧ p ≤ 1000000) {c : Int} (h0 : 0 ≤ c) (h1 : c ≤ 1000000) : Pl (p + c) := ⟨by omega, by omega⟩
theorem text0_ev {b : List Int} (hb : Code b) : ∀ (d : Nat) (out : List ByteArray) (p : Int), 0 ≤ p → p + d ≤ 1000000000 → out.length + d ≤ 1000000 → Sz out →
    ∃ r, Ev (fun k => spec_l30Text.l0 k out d b p) (r, p + d) ∧ r.length = out.length + d ∧ Sz r
  | 0, out, p, h0, h1, h2, hz => by
    refine ⟨out, ⟨1, fun k hk => ?_⟩, rfl, hz⟩
    obtain ⟨m, rfl⟩ : ∃ m, k = m + 1 := ⟨k - 1, by omega⟩
    simp [spec_l30Text.l0]
  | d + 1, out, p, h0, h1, h2, hz => by
    obtain ⟨s, hs, hs1⟩ := line_ev hb (p := p) ⟨h0, by omega⟩
    obtain ⟨r, hr, hl, hz2⟩ := text0_ev hb d (out ++ [s]) (p + 1) (by omega) (by omega) (by simp; omega) (hz.app (Sz.one hs1))
    refine ⟨r, ?_, by rw [hl]; simp; omega, hz2⟩
    refine Ev.step (f := fun k => if (((d + 1 : Nat) : Int)) > 0 then ((spec_l30Line.f k b p).bind fun bt237 => (if out.length < 8796093022208 then (spec_l30Text.l0 k (out ++ [bt237.1]) (wrap64 ((((d + 1 : Nat) : Int)) - 1)) b bt237.2) else (none))) else (some (out, p))) (fun k => rfl) ?_
    refine Ev.posf (by omega) (Ev.bind hs (Ev.posf (by omega) ?_))
    rw [show wrap64 (((d + 1 : Nat) : Int) - 1) = (d : Int) by rw [w64 (by omega) (by omega)]; omega]
    exact EvT hr (by rw [show p + 1 + (d : Int) = p + ((d + 1 : Nat) : Int) by omega])
theorem text_ev {b : List Int} (hb : Code b) {p : Int} (h0 : 0 ≤ p) (h1 : p ≤ 1000000) : ∃ r q, Ev (fun k => spec_l30Text.f k b p) (r, q) ∧ r.length ≤ 8 ∧ Sz r ∧ p ≤ q ∧ q ≤ p + 9 := by
  obtain ⟨v, hv, hm⟩ := one_ev hb (p := p) ⟨h0, by omega⟩ (l := [0, 1, 3, 5, 8]) (by simp) (by simp)
  have hv8 : 0 ≤ v ∧ v ≤ 8 := by simp at hm; omega
  obtain ⟨d, rfl⟩ := toNat_of hv8.1
  obtain ⟨r, hr, hl, hz⟩ := text0_ev hb d [] (p + 1) (by omega) (by omega) (by simp; omega) Sz.nil
  refine ⟨r, p + 1 + d, ?_, by rw [hl]; simp; omega, hz, ?_, ?_⟩
  · unfold spec_l30Text.f
    exact Ev.bind hv hr
  · omega
  · omega
theorem anyText_ev {b : List Int} (hb : Code b) {p : Int} (h0 : 0 ≤ p) (h1 : p ≤ 1000000) : ∃ r q, Ev (fun k => spec_l30AnyText.f k b p) (r, q) ∧ r.length ≤ 18 ∧ Sz r ∧ p ≤ q ∧ q ≤ p + 11 := by
  obtain ⟨t, q, ht, hl, hz, hq1, hq2⟩ := text_ev hb h0 h1
  obtain ⟨v, hv, hv0, hv1⟩ := pick_ev hb (p := q) ⟨by omega, by omega⟩ (n := 16) (by omega)
  unfold spec_l30AnyText.f
  by_cases c0 : v = 0
  · obtain ⟨s, hs, hm⟩ := of_ev hb (p := q + 1) ⟨by omega, by omega⟩ (l := [⟨#[97, 32, 108, 105, 110, 101, 32, 116, 111, 111, 32, 108, 111, 110, 103]⟩, ⟨#[120, 10, 121]⟩, ⟨#[255]⟩]) (by simp) (by simp)
    have hs1 : s.size ≤ 100 := by
      simp only [List.mem_cons, List.not_mem_nil, or_false] at hm
      rcases hm with rfl | rfl | rfl <;> decide
    exact ⟨t ++ [s], q + 1 + 1, Ev.bind ht (Ev.bind hv (Ev.posf c0 (Ev.bind hs (Ev.posf (by show t.length < _; omega) (Ev.now _))))), by simp; omega, hz.app (Sz.one hs1), by omega, by omega⟩
  · by_cases c1 : v = 1
    · exact ⟨_, q + 1, Ev.bind ht (Ev.bind hv (Ev.negf c0 (Ev.posf c1 (Ev.somef (Ev.posf (by simp; omega) (Ev.now _)))))), by simp; omega, hz.app (fun s hs => by simp only [List.mem_cons, List.not_mem_nil, or_false] at hs; rcases hs with rfl | rfl | rfl | rfl | rfl | rfl | rfl | rfl | rfl | rfl <;> decide), by omega, by omega⟩
    · exact ⟨t, q + 1, Ev.bind ht (Ev.bind hv (Ev.negf c0 (Ev.negf c1 (Ev.now _)))), by omega, hz, by omega, by omega⟩
theorem turn0_ev {b : List Int} (hb : Code b) : ∀ (d : Nat) (out : List ByteArray) (p : Int), 0 ≤ p → p + 3 * d ≤ 1000000000 → out.length ≤ 1000 → Sz out →
    ∃ r q, Ev (fun k => spec_l30Turn.l0 k out d b p) (r, q) ∧ r.length ≤ max out.length 10 ∧ Sz r ∧ p ≤ q ∧ q ≤ p + 3 * d
  | 0, out, p, h0, h1, h2, hz => by
    refine ⟨out, p, ⟨1, fun k hk => ?_⟩, by omega, hz, by omega, by omega⟩
    obtain ⟨m, rfl⟩ : ∃ m, k = m + 1 := ⟨k - 1, by omega⟩
    simp [spec_l30Turn.l0]
  | d + 1, out, p, h0, h1, h2, hz => by
    have e1 : wrap64 ((out.length : Int) + 1) = out.length + 1 := w64 (by omega) (by omega)
    have e2 : wrap64 (((d + 1 : Nat) : Int) - 1) = (d : Int) := by rw [w64 (by omega) (by omega)]; omega
    obtain ⟨i, hi, hi0, hi1⟩ := pick_ev hb (p := p) ⟨h0, by omega⟩ (n := out.length + 1) (by omega)
    obtain ⟨c, hc, hc0, hc1⟩ := pick_ev hb (p := p + 1) ⟨by omega, by omega⟩ (n := 3) (by omega)
    obtain ⟨s, hs, hs1⟩ := line_ev hb (p := p + 1 + 1) ⟨by omega, by omega⟩
    have hi2 : i ≤ out.length := by have := hi1 (by omega); omega
    obtain ⟨n, rfl⟩ := toNat_of hi0
    have step : ∀ (o2 : List ByteArray) (q : Int), o2.length ≤ max out.length 10 → Sz o2 → p ≤ q → q ≤ p + 3 → (∀ r, Ev (fun k => spec_l30Turn.l0 k o2 d b q) r → Ev (fun k => spec_l30Turn.l0 (k + 1) out ((d + 1 : Nat) : Int) b p) r) →
        ∃ r q, Ev (fun k => spec_l30Turn.l0 k out ((d + 1 : Nat) : Int) b p) (r, q) ∧ r.length ≤ max out.length 10 ∧ Sz r ∧ p ≤ q ∧ q ≤ p + 3 * ((d + 1 : Nat) : Int) := by
      intro o2 q g1 gz g2 g3 g4
      obtain ⟨r, q', hr, hl, hz2, g5, g6⟩ := turn0_ev hb d o2 q (by omega) (by omega) (by omega) gz
      exact ⟨r, q', Ev.step' (g4 _ hr), by omega, hz2, by omega, by omega⟩
    have wn : wrap64 ((n : Int) + 1) = n + 1 := w64 (by omega) (by omega)
    have hd : ((d + 1 : Nat) : Int) > 0 := by omega
    by_cases c0 : c = 0
    · by_cases g : (out.length : Int) < 10
      · refine step (([] ++ out.take (n : Int).toNat) ++ [s] ++ out.drop (n : Int).toNat) (p + 1 + 1 + 1) (by simp; omega) (((Sz.nil.app (hz.take _)).app (Sz.one hs1)).app (hz.drop _)) (by omega) (by omega) (fun r h => ?_)
        simp only [spec_l30Turn.l0, e1, e2]
        exact Ev.posf hd (Ev.bind hi (Ev.bind hc (Ev.posf c0 (Ev.posf g (Ev.somef (Ev.posf hi0 (Ev.posf hi2 (Ev.somef (Ev.posf (by simp; omega) (Ev.somef (Ev.bind hs (Ev.posf (by simp; omega) (Ev.somef (Ev.somef (Ev.posf (by simp; omega) h)))))))))))))))
      · refine step out (p + 1 + 1) (by omega) hz (by omega) (by omega) (fun r h => ?_)
        simp only [spec_l30Turn.l0, e1, e2]
        exact Ev.posf hd (Ev.bind hi (Ev.bind hc (Ev.posf c0 (Ev.negf g h))))
    · by_cases c1 : c = 1
      · by_cases g : (n : Int) < out.length
        · refine step (([] ++ out.take (n : Int).toNat) ++ out.drop ((n : Int) + 1).toNat) (p + 1 + 1) (by simp; omega) ((Sz.nil.app (hz.take _)).app (hz.drop _)) (by omega) (by omega) (fun r h => ?_)
          simp only [spec_l30Turn.l0, e1, e2]
          refine Ev.posf hd (Ev.bind hi (Ev.bind hc ?_))
          simp only [wn, Option.bind_some]
          exact Ev.negf c0 (Ev.posf c1 (Ev.posf g (Ev.posf hi0 (Ev.posf hi2 (Ev.posf (by simp; omega) (Ev.posf (by omega) (Ev.posf (by omega) (Ev.posf (by simp; omega) h))))))))
        · refine step out (p + 1 + 1) (by omega) hz (by omega) (by omega) (fun r h => ?_)
          simp only [spec_l30Turn.l0, e1, e2]
          exact Ev.posf hd (Ev.bind hi (Ev.bind hc (Ev.negf c0 (Ev.posf c1 (Ev.negf g h)))))
      · by_cases g : (n : Int) < out.length
        · refine step (out.set (n : Int).toNat s) (p + 1 + 1 + 1) (by simp; omega) (hz.set _ hs1) (by omega) (by omega) (fun r h => ?_)
          simp only [spec_l30Turn.l0, e1, e2]
          exact Ev.posf hd (Ev.bind hi (Ev.bind hc (Ev.negf c0 (Ev.negf c1 (Ev.posf g (Ev.bind hs (Ev.posf hi0 h)))))))
        · refine step out (p + 1 + 1) (by omega) hz (by omega) (by omega) (fun r h => ?_)
          simp only [spec_l30Turn.l0, e1, e2]
          exact Ev.posf hd (Ev.bind hi (Ev.bind hc (Ev.negf c0 (Ev.negf c1 (Ev.negf g h)))))
theorem turn_ev {b : List Int} (hb : Code b) {p : Int} (h0 : 0 ≤ p) (h1 : p ≤ 1000000) (t : List ByteArray) (ht : t.length ≤ 1000) (hz : Sz t) :
    ∃ r q, Ev (fun k => spec_l30Turn.f k b p t) (r, q) ∧ r.length ≤ max t.length 10 ∧ Sz r ∧ p ≤ q ∧ q ≤ p + 10 := by
  obtain ⟨c, hc, hc0, hc1⟩ := pick_ev hb (p := p) ⟨h0, by omega⟩ (n := 4) (by omega)
  have hc2 := hc1 (by omega)
  obtain ⟨d, rfl⟩ := toNat_of hc0
  obtain ⟨r, q, hr, hl, hz2, g1, g2⟩ := turn0_ev hb d ([] ++ t) (p + 1) (by omega) (by omega) (by simpa using ht) (Sz.nil.app hz)
  refine ⟨r, q, ?_, by simpa using hl, hz2, by omega, by omega⟩
  unfold spec_l30Turn.f
  exact Ev.somef (Ev.posf (by simp; omega) (Ev.bind hc hr))
theorem open_ev {l : List Int} (hw : ∀ x ∈ l, 0 ≤ x ∧ x ≤ 255) : ∃ b, spec_l30Open.f l = some (b, 0) ∧ Code b := by
  unfold spec_l30Open.f
  by_cases h : (l.length : Int) > 2000
  · exact ⟨l.take 2000, by rw [if_pos h, if_pos (by omega)], by simp; omega, fun x hx => hw x (List.mem_of_mem_take hx)⟩
  · exact ⟨l, by rw [if_neg h], by omega, hw⟩
end Go.Proofs.Ytfpdkeolecmepaa.Q
end
section
namespace Go.Proofs.Ytfpdkeolecmepaa.Q
open Go.RowKit Go.Proofs.YtfpdkeolecmepaaW.PrintWords
set_option linter.unusedVariables false
set_option linter.unusedSimpArgs false
def okc (c : UInt8) : Bool := decide (32 ≤ c.toNat) && decide (c.toNat ≤ 126)
def lineB (s : ByteArray) : Bool := s.data.toList.all okc && decide (s.size ≤ 12)
def textB (l : List ByteArray) : Bool := decide (l.length ≤ 10) && l.all lineB
/-- Not too long for a loop over it. -/
def Sm (l : List ByteArray) : Prop := l.length ≤ 1000000 ∧ ∀ s ∈ l, s.size ≤ 1000000
theorem bt_nat {s : ByteArray} {i : Nat} (h : i < s.size) : bt s (i : Int) = ((s.data.toList[i]'(by simpa using h)).toNat : Int) := by
  simp [bt, h]
  rfl
theorem drop_all {α : Type} (p : α → Bool) (l : List α) (i : Nat) (h : i < l.length) : (l.drop i).all p = (p l[i] && (l.drop (i + 1)).all p) := by
  rw [List.drop_eq_getElem_cons h, List.all_cons]
theorem implLine0_ev (s : ByteArray) (hs : s.size ≤ 1000000) : ∀ (d i : Nat), i ≤ s.size → s.size - i = d →
    Ev (fun k => impl_lineOk.l0 k s s.size i) ((s.data.toList.drop i).all okc && decide (s.size ≤ 12))
  | 0, i, hi, hd => by
    refine Ev.step' ?_
    simp only [impl_lineOk.l0]
    refine Ev.negf (by omega) ?_
    have e : s.data.toList.drop i = [] := List.drop_eq_nil_of_le (by have : s.data.toList.length = s.size := by simp
                                                                     omega)
    rw [e]
    exact EvT (Ev.now _) (by simp; omega)
  | d + 1, i, hi, hd => by
    have hl : i < s.size := by omega
    have hl2 : i < s.data.toList.length := by simpa using hl
    refine Ev.step' ?_
    simp only [impl_lineOk.l0]
    rw [drop_all okc _ i hl2, bt_nat hl]
    refine Ev.posf (by omega) (Ev.posf (by omega) (Ev.posf (by omega) ?_))
    by_cases h1 : (((s.data.toList[i]'hl2).toNat : Nat) : Int) < 32
    · refine Ev.posf h1 (EvT (Ev.now _) ?_)
      have : okc (s.data.toList[i]'hl2) = false := by simp only [okc, Bool.and_eq_false_iff, decide_eq_false_iff_not]; omega
      rw [this]; rfl
    · by_cases h2 : (((s.data.toList[i]'hl2).toNat : Nat) : Int) > 126
      · refine Ev.negf h1 (Ev.posf h2 (EvT (Ev.now _) ?_))
        have : okc (s.data.toList[i]'hl2) = false := by simp only [okc, Bool.and_eq_false_iff, decide_eq_false_iff_not]; omega
        rw [this]; rfl
      · refine Ev.negf h1 (Ev.negf h2 ?_)
        have : okc (s.data.toList[i]'hl2) = true := by simp only [okc, Bool.and_eq_true, decide_eq_true_eq]; omega
        rw [this, Bool.true_and, show wrap64 ((i : Int) + 1) = ((i + 1 : Nat) : Int) by rw [w64 (by omega) (by omega)]; omega]
        exact implLine0_ev s hs d (i + 1) (by omega) (by omega)
theorem implLine_ev (s : ByteArray) (hs : s.size ≤ 1000000) : Ev (fun k => impl_lineOk.f k s) (lineB s) := by
  unfold impl_lineOk.f
  exact EvT (implLine0_ev s hs _ 0 (by omega) rfl) (by simp [lineB])
theorem specLine0_ev (s : ByteArray) (hs : s.size ≤ 1000000) : ∀ (d i : Nat), i ≤ s.size → s.size - i = d →
    Ev (fun k => spec_l1Line.l0 k s i) ((s.data.toList.drop i).all okc && decide (s.size ≤ 12))
  | 0, i, hi, hd => by
    refine Ev.step' ?_
    simp only [spec_l1Line.l0]
    refine Ev.negf (by omega) ?_
    have e : s.data.toList.drop i = [] := List.drop_eq_nil_of_le (by have : s.data.toList.length = s.size := by simp
                                                                     omega)
    rw [e]
    exact EvT (Ev.now _) (by simp; omega)
  | d + 1, i, hi, hd => by
    have hl : i < s.size := by omega
    have hl2 : i < s.data.toList.length := by simpa using hl
    refine Ev.step' ?_
    simp only [spec_l1Line.l0]
    rw [drop_all okc _ i hl2, bt_nat hl]
    refine Ev.posf (by omega) (Ev.posf (by omega) ?_)
    by_cases h1 : (((s.data.toList[i]'hl2).toNat : Nat) : Int) < 32
    · refine Ev.posf h1 (EvT (Ev.now _) ?_)
      have : okc (s.data.toList[i]'hl2) = false := by simp only [okc, Bool.and_eq_false_iff, decide_eq_false_iff_not]; omega
      rw [this]; rfl
    · by_cases h2 : (((s.data.toList[i]'hl2).toNat : Nat) : Int) > 126
      · refine Ev.negf h1 (Ev.posf h2 (EvT (Ev.now _) ?_))
        have : okc (s.data.toList[i]'hl2) = false := by simp only [okc, Bool.and_eq_false_iff, decide_eq_false_iff_not]; omega
        rw [this]; rfl
      · refine Ev.negf h1 (Ev.negf h2 ?_)
        have : okc (s.data.toList[i]'hl2) = true := by simp only [okc, Bool.and_eq_true, decide_eq_true_eq]; omega
        rw [this, Bool.true_and, show wrap64 ((i : Int) + 1) = ((i + 1 : Nat) : Int) by rw [w64 (by omega) (by omega)]; omega]
        exact specLine0_ev s hs d (i + 1) (by omega) (by omega)
theorem specLine_ev (s : ByteArray) (hs : s.size ≤ 1000000) : Ev (fun k => spec_l1Line.f k s) (lineB s) := by
  unfold spec_l1Line.f
  exact EvT (specLine0_ev s hs _ 0 (by omega) rfl) (by simp [lineB])
theorem anyF_ev {α : Type} (f : Nat → α → Option Bool) (p : α → Bool) : ∀ l : List α, (∀ x ∈ l, Ev (fun k => f k x) (p x)) → Ev (fun k => anyF (f k) l) (l.any p)
  | [], h => Ev.now _
  | x :: t, h => by
    show Ev (fun k => (f k x).bind fun b => if b then some true else anyF (f k) t) ((x :: t).any p)
    refine Ev.bind (h x List.mem_cons_self) ?_
    cases e : p x with
    | true => exact EvT (Ev.posf rfl (Ev.now _)) (by simp [e])
    | false => exact EvT (Ev.negf (by simp) (anyF_ev f p t (fun y hy => h y (List.mem_cons_of_mem _ hy)))) (by simp [e])
theorem implText_ev (l : List ByteArray) (hl : Sm l) : Ev (fun k => impl_TextOk.f k l) (textB l) := by
  unfold impl_TextOk.f
  by_cases c : l.length ≤ 10
  · refine Ev.posf c (EvT (Ev.mapf _ (anyF_ev impl_TextOk_1.f (fun s => !lineB s) l (fun x hx => ?_))) ?_)
    · unfold impl_TextOk_1.f
      exact Ev.bind (implLine_ev x (hl.2 x hx)) (Ev.now _)
    · rw [textB, decide_eq_true c, Bool.true_and, ← List.not_all_eq_any_not]
      simp
  · exact Ev.negf c (EvT (Ev.now _) (by simp [textB]; omega))
theorem specText0_ev (l : List ByteArray) (hl : Sm l) : ∀ (d i : Nat), i ≤ l.length → l.length - i = d →
    Ev (fun k => spec_l1Ok.l0 k l i) ((l.drop i).all lineB && decide (l.length ≤ 10))
  | 0, i, hi, hd => by
    refine Ev.step' ?_
    simp only [spec_l1Ok.l0]
    refine Ev.negf (by omega) ?_
    rw [List.drop_eq_nil_of_le (by omega)]
    exact EvT (Ev.now _) (by simp; omega)
  | d + 1, i, hi, hd => by
    have hlt : i < l.length := by omega
    have hl1 := hl.1
    refine Ev.step' ?_
    simp only [spec_l1Ok.l0]
    rw [drop_all lineB l i hlt, rdAt hlt]
    refine Ev.posf (by omega) (Ev.posf (by omega) (Ev.bind (specLine_ev _ (hl.2 _ (List.getElem_mem hlt))) ?_))
    cases e : lineB l[i] with
    | false => exact Ev.negf (by simp) (EvT (Ev.now _) (by simp))
    | true =>
      refine Ev.posf rfl ?_
      rw [Bool.true_and, show wrap64 ((i : Int) + 1) = ((i + 1 : Nat) : Int) by rw [w64 (by omega) (by omega)]; omega]
      exact specText0_ev l hl d (i + 1) (by omega) (by omega)
theorem specText_ev (l : List ByteArray) (hl : Sm l) : Ev (fun k => spec_l1Ok.f k l) (textB l) := by
  unfold spec_l1Ok.f
  exact EvT (specText0_ev l hl _ 0 (by omega) rfl) (by simp [textB, Bool.and_comm])
end Go.Proofs.Ytfpdkeolecmepaa.Q
end
section
namespace Go.Proofs.Ytfpdkeolecmepaa.Q
open Go.RowKit Go.Proofs.YtfpdkeolecmepaaW.PrintWords Go.Proofs.YtfpdkeolecmepaaW.PrintMore
set_option linter.unusedVariables false
set_option linter.unusedSimpArgs false
def allB (o a b : List ByteArray) : Bool := textB o && (textB a && textB b)
theorem textB_len {l : List ByteArray} (h : textB l = true) : l.length ≤ 10 := by
  unfold textB at h
  simp only [Bool.and_eq_true, decide_eq_true_eq] at h
  exact h.1
theorem implMerge_ev {o a b : List ByteArray} (ho : o.length ≤ 1000) (ha : a.length ≤ 1000) (hb : b.length ≤ 1000) : Ev (fun k => impl_merge.f k o a b) (mrg o a b) := by
  unfold impl_merge.f
  refine Ev.bind (match_ev (by omega) (by omega)) (Ev.bind (match_ev (by omega) (by omega)) ?_)
  rw [mgG_mrg ho ha hb]
  exact Ev.now _
theorem specMerge_ev {o a b : List ByteArray} (ho : o.length ≤ 1000) (ha : a.length ≤ 1000) (hb : b.length ≤ 1000) : Ev (fun k => spec_l3Of.f k o a b) (mrg o a b) := by
  unfold spec_l3Of.f
  refine Ev.bind (smatch_ev (by omega) (by omega)) (Ev.bind (smatch_ev (by omega) (by omega)) ?_)
  rw [mgG_mrg ho ha hb]
  exact Ev.now _
theorem areTexts_ev {o a b : List ByteArray} (ho : Sm o) (ha : Sm a) (hb : Sm b) : Ev (fun k => impl_areTexts.f k o a b) (allB o a b) := by
  unfold impl_areTexts.f allB
  refine Ev.bind (implText_ev o ho) ?_
  cases textB o with
  | false => exact Ev.negf (by decide) (Ev.now _)
  | true =>
    refine Ev.posf rfl (Ev.bind (implText_ev a ha) ?_)
    cases textB a with
    | false => exact Ev.negf (by decide) (Ev.now _)
    | true => exact Ev.posf rfl (Ev.bind (implText_ev b hb) (Ev.now _))
/-- No row of a part is long. -/
def SmP (ps : List Pt) : Prop := ps.length ≤ 100000000 ∧ ∀ p ∈ ps, p.f1.length ≤ 100000000 ∧ p.f2.length ≤ 100000000 ∧ p.f3.length ≤ 100000000 ∧ p.f4.length ≤ 100000000
theorem rdP {ps : List Pt} {i : Nat} (h : i < ps.length) : rd_T31 ps (i : Int) = ps[i] := by
  simp [rd_T31, List.getD_eq_getElem?_getD, h]
/-- The clashes' rows are not long. -/
def clP (ps : List Pt) : Prop := ∀ p ∈ ps, p.f2.length ≤ 1000 ∧ p.f3.length ≤ 1000 ∧ p.f4.length ≤ 1000
theorem clP_res {ps : List Pt} (h : clP ps) (l : List ByteArray) : clP (res ps l) := by
  unfold res
  split
  · exact h
  · split
    · rename_i h1 h2
      rcases List.eq_nil_or_concat ps with rfl | ⟨q, p, hqp⟩
      · exact absurd h2.1 (by simp)
      · rw [List.concat_eq_append] at hqp
        subst hqp
        have e2 : (q ++ [p]).getLastD z31 = p := by simp [List.getLastD_eq_getLast?]
        rw [e2, List.dropLast_concat]
        intro x hx
        rcases List.mem_append.1 hx with hx | hx
        · exact h x (List.mem_append_left _ hx)
        · rw [List.mem_singleton.1 hx]
          exact h p (by simp)
    · intro x hx
      rcases List.mem_append.1 hx with hx | hx
      · exact h x hx
      · rw [List.mem_singleton.1 hx]
        exact ⟨by simp, by simp, by simp⟩
theorem clP_reg {ps : List Pt} (h : clP ps) {o a b : List ByteArray} (ho : o.length ≤ 1000) (ha : a.length ≤ 1000) (hb : b.length ≤ 1000) : clP (reg ps o a b) := by
  unfold reg
  split
  · exact clP_res h b
  · split
    · exact clP_res h a
    · intro x hx
      rcases List.mem_append.1 hx with hx | hx
      · exact h x hx
      · rw [List.mem_singleton.1 hx]
        exact ⟨ho, ha, hb⟩
theorem mg_small {o a b : List ByteArray} {mA mB : List Int} (ho : o.length ≤ 1000) (ha : a.length ≤ 1000) (hb : b.length ≤ 1000) : ∀ (d i j k N : Nat) (ps : List Pt), smP N ps → clP ps → smP (N + 2000 * d + 1000) (mg o a b mA mB d i j k ps) ∧ clP (mg o a b mA mB d i j k ps)
  | 0, i, j, k, N, ps, h, hc => by
    rw [mg]
    exact ⟨smP_reg h (by simp; omega) (by simp; omega), clP_reg hc (by simp; omega) (by simp; omega) (by simp; omega)⟩
  | d + 1, i, j, k, N, ps, h, hc => by
    simp only [mg]
    split
    · obtain ⟨h1, h2⟩ := mg_small (mA := mA) (mB := mB) ho ha hb d i j k N ps h hc
      exact ⟨⟨by have := h1.1; omega, fun q hq => by have := h1.2 q hq; omega⟩, h2⟩
    · have g1 := fun x y => seg2_le o x y
      have g2 := fun x y => seg2_le a x y
      have g3 := fun x y => seg2_le b x y
      obtain ⟨h1, h2⟩ := mg_small (mA := mA) (mB := mB) ho ha hb d (o.length - (d + 1) + 1) ((mA.getD (o.length - (d + 1)) 0).toNat + 1) ((mB.getD (o.length - (d + 1)) 0).toNat + 1) (N + 1000 + 1000) _
        (smP_res (smP_reg h (o := seg2 o i (o.length - (d + 1))) (a := seg2 a j (mA.getD (o.length - (d + 1)) 0).toNat) (b := seg2 b k (mB.getD (o.length - (d + 1)) 0).toNat) (Nat.le_trans (g2 _ _) ha) (Nat.le_trans (g3 _ _) hb)) (l := [o.getD (o.length - (d + 1)) ByteArray.empty]) (by simp))
        (clP_res (clP_reg hc (Nat.le_trans (g1 _ _) ho) (Nat.le_trans (g2 _ _) ha) (Nat.le_trans (g3 _ _) hb)) _)
      exact ⟨⟨by have := h1.1; omega, fun q hq => by have := h1.2 q hq; omega⟩, h2⟩
theorem mrg_small {o a b : List ByteArray} (ho : o.length ≤ 1000) (ha : a.length ≤ 1000) (hb : b.length ≤ 1000) : SmP (mrg o a b) := by
  obtain ⟨h1, h2⟩ := mg_small (mA := mtc o a 0) (mB := mtc o b 0) ho ha hb o.length 0 0 0 0 [] ⟨by simp, by simp⟩ (fun p hp => by cases hp)
  unfold mrg
  exact ⟨by have := h1.1; omega, fun p hp => ⟨by have := h1.2 p hp; omega, by have := h2 p hp; omega, by have := h2 p hp; omega, by have := h2 p hp; omega⟩⟩
theorem Sm_of {l : List ByteArray} (h : l.length ≤ 1000000) (hz : Sz l) : Sm l := ⟨h, fun s hs => by have := hz s hs; omega⟩
theorem three_ev {l : List Int} (hw : ∀ x ∈ l, 0 ≤ x ∧ x ≤ 255) : ∃ o a b, Ev (fun k => spec_l30Three.f k l) (o, a, b) ∧ Sm o ∧ Sm a ∧ Sm b := by
  obtain ⟨c, hc, hb⟩ := open_ev hw
  obtain ⟨t, q, ht, hl, hz, hq0, hq1⟩ := anyText_ev hb (p := 0) (by omega) (by omega)
  obtain ⟨u, q2, hu, hul, huz, hu0, hu1⟩ := turn_ev hb (p := q) (by omega) (by omega) t (by omega) hz
  obtain ⟨v, hv, hv0, hv1⟩ := pick_ev hb (p := q2) ⟨by omega, by omega⟩ (n := 8) (by omega)
  unfold spec_l30Three.f
  by_cases c0 : v = 0
  · exact ⟨t, u, u, Ev.bind (by rw [hc]; exact Ev.now _) (Ev.bind ht (Ev.bind hu (Ev.bind hv (Ev.posf c0 (Ev.now _))))), Sm_of (by omega) hz, Sm_of (by omega) huz, Sm_of (by omega) huz⟩
  · obtain ⟨x, q3, hx, hxl, hxz, hx0, hx1⟩ := turn_ev hb (p := q2 + 1) (by omega) (by omega) t (by omega) hz
    exact ⟨t, u, x, Ev.bind (by rw [hc]; exact Ev.now _) (Ev.bind ht (Ev.bind hu (Ev.bind hv (Ev.negf c0 (Ev.bind hx (Ev.now _)))))), Sm_of (by omega) hz, Sm_of (by omega) huz, Sm_of (by omega) hxz⟩
end Go.Proofs.Ytfpdkeolecmepaa.Q
end
section
namespace Go.Proofs.Ytfpdkeolecmepaa.Q
open Go.RowKit Go.Proofs.YtfpdkeolecmepaaW.PrintWords Go.Proofs.YtfpdkeolecmepaaW.PrintMore
set_option linter.unusedVariables false
set_option linter.unusedSimpArgs false
/-- No part clashes. -/
def clr (ps : List Pt) : Bool := ps.all (fun p => !p.f0)
/-- All lines that don't clash. -/
def txt (ps : List Pt) : List ByteArray := ps.flatMap (fun p => p.f1)
def sText (ps : List Pt) : List ByteArray × Bool := if clr ps = true ∧ textB (txt ps) = true then (txt ps, true) else ([], false)
def tOf (o a b : List ByteArray) : List ByteArray × Bool := if allB o a b = true then sText (mrg o a b) else ([], false)
theorem clr_cons (p : Pt) (ps : List Pt) : clr (p :: ps) = (!p.f0 && clr ps) := by simp [clr]
theorem txt_cons (p : Pt) (ps : List Pt) : txt (p :: ps) = p.f1 ++ txt ps := by simp [txt]
theorem res_last (q : List Pt) (p : Pt) (l : List ByteArray) (h : p.f0 = false) (hl : l ≠ []) : res (q ++ [p]) l = q ++ [addL p l] := res_old (fun e => hl (List.length_eq_zero_iff.mp e)) h
theorem res_cases (ps : List Pt) (l : List ByteArray) : (l = [] ∧ res ps l = ps) ∨ (∃ q p, ps = q ++ [p] ∧ p.f0 = false ∧ res ps l = q ++ [addL p l]) ∨ res ps l = ps ++ [⟨false, l, [], [], []⟩] := by
  by_cases hl : l = []
  · exact .inl ⟨hl, by rw [res, if_pos hl]⟩
  · rcases List.eq_nil_or_concat ps with rfl | ⟨q, p, hqp⟩
    · exact .inr (.inr (res_new (fun e => hl (List.length_eq_zero_iff.mp e)) (.inl rfl)))
    · rw [List.concat_eq_append] at hqp
      subst hqp
      cases hp : p.f0 with
      | false => exact .inr (.inl ⟨q, p, rfl, hp, res_last q p l hp hl⟩)
      | true => exact .inr (.inr (res_new (fun e => hl (List.length_eq_zero_iff.mp e)) (.inr ⟨q, p, rfl, hp⟩)))
/-- All lines, those of clashes too. -/
def tot (ps : List Pt) : Nat := (ps.map (fun p => p.f1.length + p.f2.length + p.f3.length + p.f4.length)).sum
theorem tot_app (x y : List Pt) : tot (x ++ y) = tot x + tot y := by simp [tot]
theorem tot_res (ps : List Pt) (l : List ByteArray) : tot (res ps l) = tot ps + l.length := by
  rcases res_cases ps l with ⟨hl, e⟩ | ⟨q, p, rfl, hp, e⟩ | e
  · rw [e, hl]; rfl
  · rw [e, tot_app, tot_app]; simp [tot, addL]; omega
  · rw [e, tot_app]; simp [tot]
theorem tot_reg (ps : List Pt) (o a b : List ByteArray) : tot (reg ps o a b) ≤ tot ps + (o.length + a.length + b.length) := by
  unfold reg
  split
  · rw [tot_res]; omega
  · split
    · rw [tot_res]; omega
    · rw [tot_app]; simp [tot]
theorem tot_mg (o a b : List ByteArray) (mA mB : List Int) : ∀ (d i j k : Nat) (ps : List Pt), tot (mg o a b mA mB d i j k ps) ≤ tot ps + (d + 1) * (o.length + a.length + b.length + 1)
  | 0, i, j, k, ps => by
    rw [mg]
    have := tot_reg ps (o.drop i) (a.drop j) (b.drop k)
    simp only [List.length_drop] at this
    omega
  | d + 1, i, j, k, ps => by
    simp only [mg]
    rw [Nat.succ_mul (d + 1)]
    split
    · have := tot_mg o a b mA mB d i j k ps
      omega
    · have h1 := tot_mg o a b mA mB d (o.length - (d + 1) + 1) ((mA.getD (o.length - (d + 1)) 0).toNat + 1) ((mB.getD (o.length - (d + 1)) 0).toNat + 1) (res (reg ps (seg2 o i (o.length - (d + 1))) (seg2 a j (mA.getD (o.length - (d + 1)) 0).toNat) (seg2 b k (mB.getD (o.length - (d + 1)) 0).toNat)) [o.getD (o.length - (d + 1)) ByteArray.empty])
      rw [tot_res] at h1
      have h2 := tot_reg ps (seg2 o i (o.length - (d + 1))) (seg2 a j (mA.getD (o.length - (d + 1)) 0).toNat) (seg2 b k (mB.getD (o.length - (d + 1)) 0).toNat)
      have g1 := seg2_le o i (o.length - (d + 1))
      have g2 := seg2_le a j (mA.getD (o.length - (d + 1)) 0).toNat
      have g3 := seg2_le b k (mB.getD (o.length - (d + 1)) 0).toNat
      simp only [List.length_singleton] at h1
      omega
theorem tot_mrg {o a b : List ByteArray} (ho : o.length ≤ 10) (ha : a.length ≤ 10) (hb : b.length ≤ 10) : tot (mrg o a b) ≤ 1000 := by
  have h := tot_mg o a b (mtc o a 0) (mtc o b 0) o.length 0 0 0 []
  have e : tot [] = 0 := rfl
  have h2 := Nat.mul_le_mul (show o.length + 1 ≤ 11 by omega) (show o.length + a.length + b.length + 1 ≤ 31 by omega)
  unfold mrg
  omega
theorem txt_tot : ∀ ps : List Pt, (txt ps).length ≤ tot ps
  | [] => Nat.le_refl _
  | p :: ps => by
    have := txt_tot ps
    simp only [txt, tot, List.flatMap_cons, List.length_append, List.map_cons, List.sum_cons] at this ⊢
    omega
/-- All lines of parts are such. -/
def inP (Q : ByteArray → Prop) (ps : List Pt) : Prop := ∀ p ∈ ps, (∀ s ∈ p.f1, Q s) ∧ (∀ s ∈ p.f2, Q s) ∧ (∀ s ∈ p.f3, Q s) ∧ (∀ s ∈ p.f4, Q s)
theorem inP_app {Q : ByteArray → Prop} {x y : List Pt} (h : inP Q x) (k : inP Q y) : inP Q (x ++ y) := fun p hp => (List.mem_append.1 hp).elim (h p) (k p)
theorem inP_one {Q : ByteArray → Prop} {p : Pt} (h : (∀ s ∈ p.f1, Q s) ∧ (∀ s ∈ p.f2, Q s) ∧ (∀ s ∈ p.f3, Q s) ∧ (∀ s ∈ p.f4, Q s)) : inP Q [p] := fun q hq => by rw [List.mem_singleton.1 hq]; exact h
theorem inP_res {Q : ByteArray → Prop} {ps : List Pt} (h : inP Q ps) {l : List ByteArray} (hl : ∀ s ∈ l, Q s) : inP Q (res ps l) := by
  rcases res_cases ps l with ⟨_, e⟩ | ⟨q, p, rfl, hp, e⟩ | e
  · rw [e]; exact h
  · rw [e]
    have hp2 := h p (by simp)
    exact inP_app (fun x hx => h x (List.mem_append_left _ hx)) (inP_one ⟨fun s hs => (List.mem_append.1 hs).elim (hp2.1 s) (hl s), hp2.2.1, hp2.2.2.1, hp2.2.2.2⟩)
  · rw [e]
    exact inP_app h (inP_one ⟨hl, by simp, by simp, by simp⟩)
theorem inP_reg {Q : ByteArray → Prop} {ps : List Pt} (h : inP Q ps) {o a b : List ByteArray} (ho : ∀ s ∈ o, Q s) (ha : ∀ s ∈ a, Q s) (hb : ∀ s ∈ b, Q s) : inP Q (reg ps o a b) := by
  unfold reg
  split
  · exact inP_res h hb
  · split
    · exact inP_res h ha
    · exact inP_app h (inP_one ⟨by simp, ho, ha, hb⟩)
theorem seg2_mem {l : List ByteArray} {i j : Nat} {s : ByteArray} (h : s ∈ seg2 l i j) : s ∈ l := List.mem_of_mem_take (List.mem_of_mem_drop h)
theorem inP_mg {Q : ByteArray → Prop} {o a b : List ByteArray} {mA mB : List Int} (ho : ∀ s ∈ o, Q s) (ha : ∀ s ∈ a, Q s) (hb : ∀ s ∈ b, Q s) : ∀ (d i j k : Nat) (ps : List Pt), d ≤ o.length → inP Q ps → inP Q (mg o a b mA mB d i j k ps)
  | 0, i, j, k, ps, hd, h => by
    rw [mg]
    exact inP_reg h (fun s hs => ho s (List.mem_of_mem_drop hs)) (fun s hs => ha s (List.mem_of_mem_drop hs)) (fun s hs => hb s (List.mem_of_mem_drop hs))
  | d + 1, i, j, k, ps, hd, h => by
    simp only [mg]
    split
    · exact inP_mg ho ha hb d i j k ps (by omega) h
    · refine inP_mg ho ha hb d _ _ _ _ (by omega) (inP_res (inP_reg h (fun s hs => ho s (seg2_mem hs)) (fun s hs => ha s (seg2_mem hs)) (fun s hs => hb s (seg2_mem hs))) (fun s hs => ?_))
      rw [List.mem_singleton.1 hs, List.getD_eq_getElem?_getD, List.getElem?_eq_getElem (by omega : o.length - (d + 1) < o.length)]
      exact ho _ (List.getElem_mem _)
theorem inP_mrg {Q : ByteArray → Prop} {o a b : List ByteArray} (ho : ∀ s ∈ o, Q s) (ha : ∀ s ∈ a, Q s) (hb : ∀ s ∈ b, Q s) : inP Q (mrg o a b) := inP_mg ho ha hb o.length 0 0 0 [] (Nat.le_refl _) (fun p hp => by cases hp)
theorem inP_txt {Q : ByteArray → Prop} {ps : List Pt} (h : inP Q ps) : ∀ s ∈ txt ps, Q s := fun s hs => by
  obtain ⟨p, hp, hs⟩ := List.mem_flatMap.1 hs
  exact (h p hp).1 s hs
theorem stl_no : ∀ (ps : List Pt) (out : List ByteArray), stl noBy ps out = if clr ps = true then some (out ++ txt ps) else none
  | [], out => by simp [stl, clr, txt]
  | p :: ps, out => by
    rw [stl]
    cases h : p.f0 with
    | true => simp [noBy, clr, h]
    | false =>
      rw [if_neg (by decide), stl_no ps]
      simp [clr, txt, h]
/-- Texts that are ok: few lines, none too long. -/
def Ok3 (o a b : List ByteArray) : Prop := Sm o ∧ Sm a ∧ Sm b
theorem allB_len {o a b : List ByteArray} (h : allB o a b = true) : o.length ≤ 10 ∧ a.length ≤ 10 ∧ b.length ≤ 10 := by
  unfold allB at h
  simp only [Bool.and_eq_true] at h
  exact ⟨textB_len h.1, textB_len h.2.1, textB_len h.2.2⟩
theorem mrg_inS {o a b : List ByteArray} (hs : Ok3 o a b) : inP (fun s => s.size ≤ 1000000) (mrg o a b) := inP_mrg hs.1.2 hs.2.1.2 hs.2.2.2
theorem part_tot : ∀ {ps : List Pt} {p : Pt}, p ∈ ps → p.f1.length + p.f2.length + p.f3.length + p.f4.length ≤ tot ps
  | q :: ps, p, h => by
    simp only [tot, List.map_cons, List.sum_cons]
    rcases List.mem_cons.1 h with rfl | h
    · omega
    · have := part_tot h
      unfold tot at this
      omega
theorem implText3_ev {o a b : List ByteArray} (hs : Ok3 o a b) : Ev (fun k => impl_MergeText.f k o a b) (tOf o a b) := by
  unfold impl_MergeText.f tOf
  refine Ev.bind (areTexts_ev hs.1 hs.2.1 hs.2.2) ?_
  by_cases h : allB o a b = true
  · rw [if_pos h]
    obtain ⟨h1, h2, h3⟩ := allB_len h
    refine Ev.posf h (Ev.bind (implMerge_ev (by omega) (by omega) (by omega)) ?_)
    have ht := tot_mrg h1 h2 h3
    have hsm := (mrg_small (o := o) (a := a) (b := b) (by omega) (by omega) (by omega)).1
    have hl := (mg_small (o := o) (a := a) (b := b) (mA := mtc o a 0) (mB := mtc o b 0) (by omega) (by omega) (by omega) o.length 0 0 0 0 [] ⟨by simp, by simp⟩ (fun p hp => by cases hp)).1.1
    unfold settledF
    refine Ev.posf ⟨by unfold mrg; omega, fun p hp => ⟨by have := part_tot hp; omega, by simp [noBy]⟩⟩ ?_
    rw [stl_no]
    unfold sText
    cases hc : clr (mrg o a b) with
    | false => simp only [Bool.false_eq_true, if_false, false_and]; exact Ev.now _
    | true =>
      simp only [if_true, true_and, List.nil_append]
      have hx := txt_tot (mrg o a b)
      refine EvT (Ev.bind (implText_ev (txt (mrg o a b)) ⟨by omega, inP_txt (mrg_inS hs)⟩) (Ev.now _)) ?_
      cases textB (txt (mrg o a b)) <;> simp
  · rw [if_neg h]
    exact Ev.negf h (Ev.now _)
end Go.Proofs.Ytfpdkeolecmepaa.Q
end
section
namespace Go.Proofs.Ytfpdkeolecmepaa.Q
open Go.RowKit Go.Proofs.YtfpdkeolecmepaaW.PrintWords Go.Proofs.YtfpdkeolecmepaaW.PrintMore
set_option linter.unusedVariables false
set_option linter.unusedSimpArgs false
def sid (s : Int) (p : Pt) : List ByteArray := if p.f0 = true then (sideBy s p).1 else p.f1
def sTx (s : Int) (ps : List Pt) : List ByteArray := ps.flatMap (sid s)
def sSide (s : Int) (ps : List Pt) : List ByteArray × Bool := if textB (sTx s ps) = true then (sTx s ps, true) else ([], false)
def sOf (o a b : List ByteArray) (s : Int) : List ByteArray × Bool := if allB o a b = true ∧ 0 ≤ s ∧ s ≤ 2 then sSide s (mrg o a b) else ([], false)
theorem sTx_cons (s : Int) (p : Pt) (ps : List Pt) : sTx s (p :: ps) = sid s p ++ sTx s ps := by simp [sTx]
theorem sid_len (s : Int) (p : Pt) : (sid s p).length ≤ p.f1.length + p.f2.length + p.f3.length + p.f4.length ∧ (sideBy s p).1.length ≤ p.f1.length + p.f2.length + p.f3.length + p.f4.length := by
  unfold sid sideBy
  constructor
  · split
    · simp only
      split
      · omega
      · split <;> omega
    · omega
  · simp only
    split
    · omega
    · split <;> omega
theorem sTx_tot (s : Int) : ∀ ps : List Pt, (sTx s ps).length ≤ tot ps
  | [] => Nat.le_refl _
  | p :: ps => by
    have := sTx_tot s ps
    have h := (sid_len s p).1
    rw [sTx_cons]
    simp only [tot, List.length_append, List.map_cons, List.sum_cons] at this ⊢
    omega
theorem inP_sTx {Q : ByteArray → Prop} {ps : List Pt} (h : inP Q ps) (s : Int) : ∀ x ∈ sTx s ps, Q x := fun x hx => by
  obtain ⟨p, hp, hs⟩ := List.mem_flatMap.1 hx
  have hq := h p hp
  unfold sid sideBy at hs
  split at hs
  · simp only at hs
    split at hs
    · exact hq.2.1 x hs
    · split at hs
      · exact hq.2.2.1 x hs
      · exact hq.2.2.2 x hs
  · exact hq.1 x hs
theorem stl_side (s : Int) : ∀ (ps : List Pt) (out : List ByteArray), stl (sideBy s) ps out = some (out ++ sTx s ps)
  | [], out => by simp [stl, sTx]
  | p :: ps, out => by
    rw [stl, sTx_cons]
    cases h : p.f0 with
    | true =>
      rw [if_pos rfl, if_pos (show (sideBy s p).2 = true from rfl), stl_side s ps, sid, if_pos h, List.append_assoc]
    | false =>
      rw [if_neg (by decide), stl_side s ps, sid, if_neg (by rw [h]; decide), List.append_assoc]
theorem implSide_ev {o a b : List ByteArray} (hs : Ok3 o a b) (s : Int) : Ev (fun k => impl_MergeSide.f k o a b s) (sOf o a b s) := by
  unfold impl_MergeSide.f sOf
  refine Ev.bind (areTexts_ev hs.1 hs.2.1 hs.2.2) ?_
  by_cases h : allB o a b = true ∧ 0 ≤ s ∧ s ≤ 2
  · rw [if_pos h]
    obtain ⟨h1, h2, h3⟩ := allB_len h.1
    refine Ev.posf h (Ev.bind (implMerge_ev (by omega) (by omega) (by omega)) ?_)
    have ht := tot_mrg h1 h2 h3
    have hl := (mg_small (o := o) (a := a) (b := b) (mA := mtc o a 0) (mB := mtc o b 0) (by omega) (by omega) (by omega) o.length 0 0 0 0 [] ⟨by simp, by simp⟩ (fun p hp => by cases hp)).1.1
    unfold settledF
    refine Ev.posf ⟨by unfold mrg; omega, fun p hp => ⟨by have := part_tot hp; omega, by have := part_tot hp; have := (sid_len s p).2; omega⟩⟩ ?_
    rw [stl_side]
    unfold sSide
    simp only [List.nil_append]
    have hx := sTx_tot s (mrg o a b)
    refine EvT (Ev.bind (implText_ev (sTx s (mrg o a b)) ⟨by omega, inP_sTx (mrg_inS hs) s⟩) (Ev.now _)) ?_
    cases textB (sTx s (mrg o a b)) <;> simp
  · rw [if_neg h]
    exact Ev.negf h (Ev.now _)
theorem sTx_clr (s : Int) : ∀ ps : List Pt, clr ps = true → sTx s ps = txt ps
  | [], h => rfl
  | p :: ps, h => by
    rw [clr_cons] at h
    simp only [Bool.and_eq_true, Bool.not_eq_true'] at h
    rw [sTx_cons, txt_cons, sTx_clr s ps h.2, sid, if_neg (by rw [h.1]; decide)]
theorem allB_swp (o a b : List ByteArray) : allB o b a = allB o a b := by unfold allB; cases textB a <;> cases textB b <;> rfl
end Go.Proofs.Ytfpdkeolecmepaa.Q
end
section
namespace Go.Proofs.Ytfpdkeolecmepaa.Q
open Go.RowKit Go.Proofs.YtfpdkeolecmepaaW.PrintWords Go.Proofs.YtfpdkeolecmepaaW.PrintMore
set_option linter.unusedVariables false
set_option linter.unusedSimpArgs false
def cnt : List Pt → Nat
  | [] => 0
  | p :: ps => (if p.f0 = true then 1 else 0) + cnt ps
theorem cnt_swp : ∀ ps : List Pt, cnt (ps.map swp) = cnt ps
  | [] => rfl
  | p :: ps => by rw [List.map_cons, cnt, cnt, cnt_swp ps]; rfl
def cOf (o a b : List ByteArray) : Int := if allB o a b = true then (cnt (mrg o a b) : Int) else -1
theorem mrg_len {o a b : List ByteArray} (h : allB o a b = true) : (mrg o a b).length ≤ 1000000 ∧ o.length ≤ 10 ∧ a.length ≤ 10 ∧ b.length ≤ 10 := by
  unfold allB at h
  simp only [Bool.and_eq_true] at h
  have h1 := textB_len h.1
  have h2 := textB_len h.2.1
  have h3 := textB_len h.2.2
  have hl := (mg_small (o := o) (a := a) (b := b) (mA := mtc o a 0) (mB := mtc o b 0) (by omega) (by omega) (by omega) o.length 0 0 0 0 [] ⟨by simp, by simp⟩ (fun p hp => by cases hp)).1.1
  unfold mrg
  exact ⟨by omega, h1, h2, h3⟩
theorem implCnt0_ev (ps : List Pt) (hps : ps.length ≤ 1000000) : ∀ (d i c : Nat), i ≤ ps.length → ps.length - i = d → c ≤ i → Ev (fun k => impl_MergeClash.l0 k c ps ps.length i) ((c + cnt (ps.drop i) : Nat) : Int)
  | 0, i, c, hi, hd, hc => by
    refine Ev.step' ?_
    simp only [impl_MergeClash.l0]
    rw [List.drop_eq_nil_of_le (by omega)]
    exact Ev.negf (by omega) (EvT (Ev.now _) (by simp [cnt]))
  | d + 1, i, c, hi, hd, hc => by
    have hip : i < ps.length := by omega
    refine Ev.step' ?_
    simp only [impl_MergeClash.l0]
    rw [rdP hip, w64_succ i (by omega), w64_succ c (by omega), drop_at hip, cnt]
    refine Ev.posf (by omega) (Ev.posf (by omega) (Ev.posf (by omega) ?_))
    cases hf : ps[i].f0 with
    | true =>
      refine Ev.posf rfl ?_
      have ih := implCnt0_ev ps hps d (i + 1) (c + 1) (by omega) (by omega) (by omega)
      rw [if_pos rfl, show c + (1 + cnt (ps.drop (i + 1))) = c + 1 + cnt (ps.drop (i + 1)) by omega]
      exact ih
    | false =>
      refine Ev.negf (by decide) ?_
      have ih := implCnt0_ev ps hps d (i + 1) c (by omega) (by omega) (by omega)
      rw [if_neg (by decide), Nat.zero_add]
      exact ih
theorem implCnt_ev {o a b : List ByteArray} (ho : Sm o) (ha : Sm a) (hb : Sm b) : Ev (fun k => impl_MergeClash.f k o a b) (cOf o a b) := by
  unfold impl_MergeClash.f cOf
  refine Ev.bind (areTexts_ev ho ha hb) ?_
  by_cases h : allB o a b = true
  · rw [if_pos h]
    obtain ⟨h0, h1, h2, h3⟩ := mrg_len h
    have := implCnt0_ev (mrg o a b) h0 _ 0 0 (Nat.zero_le _) rfl (Nat.le_refl _)
    rw [Nat.zero_add, List.drop_zero] at this
    exact Ev.posf h (Ev.bind (implMerge_ev (by omega) (by omega) (by omega)) this)
  · rw [if_neg h]
    exact Ev.negf h (Ev.now _)
end Go.Proofs.Ytfpdkeolecmepaa.Q
end
section
namespace Go.Proofs.Ytfpdkeolecmepaa.Q
open Go.RowKit Go.Proofs.YtfpdkeolecmepaaW.PrintWords
set_option linter.unusedVariables false
set_option linter.unusedSimpArgs false
theorem specCnt0_ev (ps : List Pt) (hps : ps.length ≤ 1000000) : ∀ (d i c : Nat), i ≤ ps.length → ps.length - i = d → c ≤ i → Ev (fun k => spec_MergeClash.l0 k c ps i) ((c + cnt (ps.drop i) : Nat) : Int)
  | 0, i, c, hi, hd, hc => by
    refine Ev.step' ?_
    simp only [spec_MergeClash.l0]
    rw [List.drop_eq_nil_of_le (by omega)]
    exact Ev.negf (by omega) (EvT (Ev.now _) (by simp [cnt]))
  | d + 1, i, c, hi, hd, hc => by
    have hip : i < ps.length := by omega
    refine Ev.step' ?_
    simp only [spec_MergeClash.l0]
    rw [rdP hip, w64_succ i (by omega), w64_succ c (by omega), drop_at hip, cnt]
    refine Ev.posf (by omega) (Ev.posf (by omega) ?_)
    cases hf : ps[i].f0 with
    | true =>
      refine Ev.posf rfl ?_
      have ih := specCnt0_ev ps hps d (i + 1) (c + 1) (by omega) (by omega) (by omega)
      rw [if_pos rfl, show c + (1 + cnt (ps.drop (i + 1))) = c + 1 + cnt (ps.drop (i + 1)) by omega]
      exact ih
    | false =>
      refine Ev.negf (by decide) ?_
      have ih := specCnt0_ev ps hps d (i + 1) c (by omega) (by omega) (by omega)
      rw [if_neg (by decide), Nat.zero_add]
      exact ih
theorem specCnt_ev {o a b : List ByteArray} (ho : Sm o) (ha : Sm a) (hb : Sm b) : Ev (fun k => spec_MergeClash.f k o a b) (cOf o a b) := by
  have hno : ∀ x, x = true → allB o a b = false → Ev (fun k => spec_MergeClash.j0 k o a b 0 x) (cOf o a b) := fun x hx h => by
    subst hx
    unfold cOf
    rw [if_neg (by rw [h]; decide)]
    refine Ev.step' ?_
    simp only [spec_MergeClash.j0]
    exact Ev.posf trivial (Ev.now _)
  unfold spec_MergeClash.f
  refine Ev.bind (specText_ev o ho) ?_
  cases eo : textB o with
  | false => exact Ev.negf (by decide) (hno _ rfl (by simp [allB, eo]))
  | true =>
    refine Ev.posf rfl (Ev.bind (specText_ev a ha) ?_)
    cases ea : textB a with
    | false => exact Ev.negf (by decide) (hno _ rfl (by simp [allB, eo, ea]))
    | true =>
      refine Ev.posf rfl (Ev.bind (specText_ev b hb) ?_)
      cases eb : textB b with
      | false => exact hno _ rfl (by simp [allB, eo, ea, eb])
      | true =>
        have h : allB o a b = true := by simp [allB, eo, ea, eb]
        obtain ⟨h0, h1, h2, h3⟩ := mrg_len h
        have := specCnt0_ev (mrg o a b) h0 _ 0 0 (Nat.zero_le _) rfl (Nat.le_refl _)
        rw [Nat.zero_add, List.drop_zero] at this
        refine Ev.step' ?_
        simp only [spec_MergeClash.j0]
        refine Ev.negf (by decide) (Ev.bind (specMerge_ev (by omega) (by omega) (by omega)) ?_)
        unfold cOf
        rw [if_pos h]
        exact this
theorem cnt_clr : ∀ ps : List Pt, cnt ps = 0 ↔ clr ps = true
  | [] => by simp [cnt, clr]
  | p :: ps => by
    have ih := cnt_clr ps
    rw [cnt, clr_cons]
    cases h : p.f0 with
    | true => simp
    | false => simpa using ih
end Go.Proofs.Ytfpdkeolecmepaa.Q
namespace Go.Proofs.Ytfpdkeolecmepaa.Pure
open Go.RowKit Go.Proofs.Ytfpdkeolecmepaa.Q Go.Proofs.YtfpdkeolecmepaaW.PrintWords Go.Proofs.YtfpdkeolecmepaaW.PrintLast
theorem FnMergeClash : laws_FnMergeClash.Pure := by
  intro l0 hm hb hw
  refine Ev.rounds ?_
  unfold laws_FnMergeClash.f
  by_cases hl : (l0.length : Int) > 1048576
  · exact Ev.posf hl (Ev.now _)
  · refine Ev.negf hl ?_
    obtain ⟨o, a, b, h3, ho, ha, hb⟩ := three_ev (l := l0) (fun x hx => by have := hw x hx; simp [Lit.wf, IntKind.bits, IntKind.signed, IntKind.min, IntKind.max] at this; omega)
    have hd : Ev (fun k => spec_DrawMergeClash.f k l0) (o, a, b) := by unfold spec_DrawMergeClash.f; exact Ev.bind h3 (Ev.now _)
    have hok : Ok3 o a b := ⟨ho, ha, hb⟩
    have hsp := specCnt_ev ho ha hb
    refine Ev.bind hd (Ev.bind (implCnt_ev ho ha hb) (Ev.bind hsp (Ev.posf rfl ?_)))
    by_cases h : allB o a b = true
    · have ec : cOf o a b = (cnt (mrg o a b) : Int) := by unfold cOf; rw [if_pos h]
      have ec2 : cOf o b a = (cnt (mrg o a b) : Int) := by unfold cOf; rw [if_pos (by rw [allB_swp]; exact h), mrg_swp, cnt_swp]
      have hneg : decide (cOf o a b < 0) = false := decide_eq_false (by omega)
      rw [hneg]
      have hcl := implCnt_ev ho hb ha
      rw [ec2] at hcl
      rw [ec]
      have et : (tOf o a b).2 = (clr (mrg o a b) && textB (txt (mrg o a b))) := by
        unfold tOf sText
        rw [if_pos h]
        cases clr (mrg o a b) <;> cases textB (txt (mrg o a b)) <;> simp
      have es : (sOf o a b 1).2 = textB (sTx 1 (mrg o a b)) := by
        unfold sOf sSide
        rw [if_pos ⟨h, by omega, by omega⟩]
        cases textB (sTx 1 (mrg o a b)) <;> simp
      refine Ev.step' ?_
      simp only [laws_FnMergeClash.j0]
      refine Ev.negf (by decide) (Ev.bind (implText3_ev hok) (Ev.bind (implSide_ev hok 1) (Ev.bind hcl (Ev.posf rfl ?_))))
      by_cases c : cnt (mrg o a b) = 0
      · have hc := (cnt_clr _).1 c
        have e2 : ((tOf o a b).2 == (sOf o a b 1).2) = true := by
          rw [et, es, hc, sTx_clr 1 _ hc]
          simp
        refine Ev.ite (fun _ => ?_) (fun _ => ?_)
        · exact Ev.posf (by omega) (Ev.negf (by omega) (EvT (Ev.now _) e2))
        · exact Ev.negf (by omega) (EvT (Ev.now _) e2)
      · have hc : clr (mrg o a b) = false := by
          cases hh : clr (mrg o a b) with
          | false => rfl
          | true => exact absurd ((cnt_clr _).2 hh) c
        have e2 : ¬ (tOf o a b).2 = true := by rw [et, hc]; simp
        exact Ev.negf e2 (Ev.posf (by omega) (Ev.now _))
    · have ec : cOf o a b = -1 := by unfold cOf; rw [if_neg h]
      have hneg : decide (cOf o a b < 0) = true := decide_eq_true (by omega)
      rw [hneg]
      refine Ev.step' ?_
      simp only [laws_FnMergeClash.j0]
      exact Ev.posf trivial (Ev.bind hsp (EvT (Ev.now _) (by simp)))
end Go.Proofs.Ytfpdkeolecmepaa.Pure
end
section
namespace Go.Proofs.YtfpdkeolecmepaaW.PrintWords
open Go.ChangeShapes Go.WideShapes
/-- A row's slice of whole numbers is no longer than its weight allows. -/
theorem sized_ints {H : Type} {enc : TypeId × Value → H} {P : Program} {W : World} {base : Nat} {spare : Nat → Bool} {held : Bool} {t e : TypeId} {k : IntKind} {a : Option Addr} {len cap : Nat} {d : DataW H} {ps : List MemPlace} {ts : List TypeId} {ds : List (DataW H)} {j : Nat}
 (hsz : (DataW.weightsEach P ts ds).all (· ≤ reachBytes) = true) (ht : ts[j]? = some t) (hd : ds[j]? = some d) (hu : P.underlying t = some (.slice e)) (he : P.underlying e = some (.int k)) (hc : P.cellsOf e = 1) {B : Nat} (hB : P.bytesOf e = B)
 (h : DataW.Trod enc P W base spare held t (.slice a len cap) d ps) : len * B ≤ 140737488351232 := by
 obtain ⟨fuel, hf⟩ := h
 rcases open_ints hu he hc hf with ⟨hcs, _⟩ | ⟨x, l, c, zs, hcs, _, hl, _, hz, hx, _, _⟩
 ·simp [Value.cells] at hcs
  obtain ⟨rfl, rfl, rfl⟩ := hcs
  simp
 ·simp [Value.cells] at hcs
  obtain ⟨rfl, rfl, rfl⟩ := hcs
  obtain ⟨hx, _⟩ := Prod.mk.inj hx
  subst hx
  have z := sized_slice hsz ht hd hu
  rw [hB] at z
  have hl2 : len ≤ zs.length := by
   rw [hz]
   split
   ·exact hl
   ·exact Nat.le_refl _
  have h1 : (lits (H := H) k (zs.take len)).length + (lits (H := H) k (zs.drop len)).length = zs.length := by
   simp [lits]
   omega
  rw [h1] at z
  exact Nat.le_trans (Nat.mul_le_mul_right _ hl2) z
end Go.Proofs.YtfpdkeolecmepaaW.PrintWords
end
section
namespace Go.Proofs.Ytfpdkeolecmepaa.fnMergeClash
open Go.ChangeShapes Go.WideShapes Go.ChangeAt Go.RowKit
open Go.ChangeMaps (open_string shut_string)
set_option linter.unusedVariables false
theorem own : ownKnob Try.prog.godebug = none := by kernel_rfl
theorem laidOut : laidOutB Try.prog = true := by kernel_rfl
def IsRow (k : IntKind) (w : World) (a : Option Addr) (len cap : Nat) (zs : List Int) : Prop :=
  (a = none ∧ len = 0 ∧ cap = 0 ∧ zs = []) ∨
  ∃ x, a = some x ∧ len ≤ cap ∧ cap ≤ maxLen ∧ zs.length = cap ∧ (∀ i, i < zs.length → w.cell? (x.add i) = some (.int k (zs.getD i 0))) ∧ ∀ n ∈ zs, (Lit.int k n).wf = true
set_option maxRecDepth 100000 in
theorem lifted (os : Os) (started : os.Started) (H : Type) (enc : TypeId × Value → H) :
    ReturnsInHanded {} Try.checked os 6 .any (Rows.fnMergeClashSpec.pre6 enc Try.prog Try.f6 Rows.fnMergeClashRow.domain false) (Rows.fnMergeClashSpec.post enc Try.prog Try.f6 false true false false) := by
  refine returnsInHanded_of_change_sized (C := Try.checked) own started (by kernel_rfl) Try.func6
    (ChangeSpec.witness6 (enc := enc) (C := Try.checked) false ⟨#[], #[.slice none 0 0], []⟩ 8 (by kernel_rfl) (by kernel_rfl) (by kernel_rfl) (by kernel_rfl)) ?_
  intro W base args ds gs before hval0 hW hcnd hsz0 _
  have hsz : (DataW.weightsEach Try.prog (Try.f6.params.toList ++ Rows.fnMergeClashSpec.plain.varTypes Try.prog) (ds ++ gs)).all (· ≤ reachBytes) = true := hsz0
  have hval : ∀ (j : Nat) t v, Try.f6.params[j]? = some t → args[j]? = some v → Value.okWide Try.prog W .any base t v := hval0
  have hW' := hW
  obtain ⟨p, q, hA0, hV, rfl, hfz, hnd⟩ := hW
  have hA : DataW.TrodAll enc Try.prog W 0 (fun _ => true) true Try.f6.params.toList args.toList ds p := hA0
  rw [Try.params6] at hA hval hsz
  obtain ⟨v0, vs0, d0, ds0, p0, q0, hargs, rfl, rfl, h0, r0⟩ := trodAll_cons hA
  obtain ⟨rfl, rfl, rfl⟩ := trodAll_nil r0
  obtain rfl : args = #[v0] := by cases args; simp_all
  obtain ⟨rfl, rfl⟩ := trodVars_none hV
  obtain ⟨a0, len0, cap0, rfl⟩ := okWide_slice Try.underlying22 (hval 0 22 v0 rfl rfl)
  have k0 := h0
  have lt0 : ∀ x ∈ p0, x.block < W.heap.size := by obtain ⟨m, hm⟩ := k0; exact DataW.trod_lt m _ _ _ hm
  obtain ⟨z0, w0⟩ : ∃ zs, IsRow .u8 W a0 len0 cap0 zs := by
    obtain ⟨fuel, hf⟩ := h0
    rcases open_ints Try.underlying22 Try.underlying5 (by kernel_rfl) hf with ⟨hcs, _⟩ | ⟨x, l, c, zs, hcs, _, hl, hm, hz, _, hcell, hwz⟩
    · simp [Value.cells] at hcs
      obtain ⟨rfl, rfl, rfl⟩ := hcs
      exact ⟨[], .inl ⟨rfl, rfl, rfl, rfl⟩⟩
    · simp [Value.cells] at hcs
      obtain ⟨rfl, rfl, rfl⟩ := hcs
      exact ⟨zs, .inr ⟨_, rfl, hl, hm, by simpa using hz, hcell, hwz⟩⟩
  have y0 : len0 * 1 ≤ 140737488351232 := Go.Proofs.YtfpdkeolecmepaaW.PrintWords.sized_ints hsz (j := 0) (t := 22) rfl rfl Try.underlying22 Try.underlying5 (by kernel_rfl) (by kernel_rfl) h0
  clear hA0 hval0 hsz0 hsz
  refine (Q.laws_FnMergeClash.walk Pure.FnMergeClash a0 len0 cap0 z0 W w0 y0).mono fun e W' ⟨he, bel⟩ => ?_
  subst he
  exact ⟨_, rfl, _, _, _, [], _, [], hW', trodAll_mk1 (shut_bool Try.underlying4 _), (trodAll_cons_mk (Below.trod laidOut (by kernel_rfl) (of_decide_eq_true (by kernel_rfl)) k0 bel lt0) trodAll_mk0), rfl, bel.frame _, fun h => by cases h⟩
theorem over : Rows.fnMergeClashRow.holds Try.pinned (OpenSpec.ofChange Rows.fnMergeClashSpec) :=
  OpenClaim.holds_of_wide 6 Try.f6 rfl rfl rfl rfl rfl rfl rfl ⟨rfl, rfl, rfl, rfl, rfl⟩ rfl rfl rfl rfl rfl (by kernel_rfl) Try.func6 (by kernel_rfl)
    (of_decide_eq_true (by kernel_rfl)) (by unfold Func.isWrapper; first | (rw [if_pos (by decide +kernel)]; kernel_rfl) | (rw [if_neg (by decide +kernel)]; exact ⟨rfl, rfl⟩))
    (fun os started H enc _ => lifted os started H enc)
theorem proved : Rows.FnMergeClashSaid := over
#print axioms proved
end Go.Proofs.Ytfpdkeolecmepaa.fnMergeClash
namespace Go.Proofs.Ytfpdkeolecmepaa
/-- The row, under a short name, for the claim. -/
theorem fnMergeClash_holds : Rows.FnMergeClashSaid := fnMergeClash.proved
end Go.Proofs.Ytfpdkeolecmepaa
end
