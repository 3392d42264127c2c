/- FnPackGet: for every argument the law returns true, and its arguments read behind the call as they read before. No conditions. -/
import Derived.SizedLaws
import Derived.ChangeSlices
import Derived.Test.YtfnhjaiioojbkaaRows
import Derived.WalkKit
import Derived.ProofKit
import Derived.OpenShut
import Derived.ShutString
import Derived.ChangeOld
import Derived.Below
import Derived.Test.YtfnhjaiioojbkaaMPackGet0
import Derived.Test.YtfnhjaiioojbkaaMPackGet1
import Derived.Test.YtfnhjaiioojbkaaMPackGet2
import Derived.Test.YtfnhjaiioojbkaaMPackGet3
import Derived.Test.YtfnhjaiioojbkaaMPackGet4
set_option linter.unusedVariables false
set_option linter.unusedSimpArgs false
section
namespace Go.Proofs.Ytfnhjaiioojbkaa.Q
open Go.RowKit Go.Proofs.YtfnhjaiioojbkaaW.PrintWords
set_option linter.unusedVariables false
set_option linter.unusedSimpArgs false
/-- A code: not long, of bytes. -/
def Code (b : List Int) : Prop := b.length ≤ 2000 ∧ ∀ x ∈ b, 0 ≤ x ∧ x ≤ 255
theorem Code.rd {b : List Int} (h : Code b) (i : Int) : 0 ≤ rd b i ∧ rd b i ≤ 255 := by
  show 0 ≤ b.getD i.toNat 0 ∧ b.getD i.toNat 0 ≤ 255
  rw [List.getD_eq_getElem?_getD]
  by_cases hi : i.toNat < b.length
  · simp [hi]
    exact h.2 _ (List.getElem_mem hi)
  · simp [hi]
/-- A place in a code that is far from the end of the numbers. -/
def Pl (p : Int) : Prop := 0 ≤ p ∧ p ≤ 1000000000
theorem tmod_in {x n : Int} (hx : 0 ≤ x) (hn : 1 ≤ n) : 0 ≤ Int.tmod x n ∧ Int.tmod x n < n := by
  rw [Int.tmod_eq_emod_of_nonneg hx]
  exact ⟨Int.emod_nonneg _ (by omega), Int.emod_lt_of_pos _ (by omega)⟩
theorem pick_ev {b : List Int} (hb : Code b) {p : Int} (hp : Pl p) {n : Int} (hn : n ≤ 1000000) :
    ∃ v, Ev (fun k => spec_l30Rd_pick.f k b p n) (v, p + 1) ∧ 0 ≤ v ∧ (1 ≤ n → v < n) := by
  have e1 : wrap64 (p + 1) = p + 1 := w64 (by have := hp.1; omega) (by have := hp.2; omega)
  have e2 : wrap64 (p + 1 - 1) = p := by rw [show p + 1 - 1 = p by omega]; exact w64 (by have := hp.1; omega) (by have := hp.2; omega)
  by_cases h1 : n < 1
  · refine ⟨0, ⟨1, fun k hk => ?_⟩, by omega, by omega⟩
    obtain ⟨m, rfl⟩ : ∃ m, k = m + 1 := ⟨k - 1, by omega⟩
    simp only [spec_l30Rd_pick.f]
    rw [if_pos h1]
    simp only [spec_l30Rd_pick.j0]
    rw [if_pos trivial, e1]
  · by_cases h2 : (b.length : Int) = 0
    · refine ⟨0, ⟨1, fun k hk => ?_⟩, by omega, by omega⟩
      obtain ⟨m, rfl⟩ : ∃ m, k = m + 1 := ⟨k - 1, by omega⟩
      simp only [spec_l30Rd_pick.f]
      rw [if_neg h1]
      simp only [spec_l30Rd_pick.j0]
      rw [if_pos (by simpa using h2), e1]
    · have hL1 : 1 ≤ (b.length : Int) := by omega
      have hL2 : (b.length : Int) ≤ 2000 := by have := hb.1; omega
      have e3 : wrap64 (p * 7) = p * 7 := w64 (by have := hp.1; omega) (by have := hp.2; omega)
      have e4 : wrap64 (p * 7 + 3) = p * 7 + 3 := w64 (by have := hp.1; omega) (by have := hp.2; omega)
      have m1 := tmod_in hp.1 hL1
      have m2 := tmod_in (x := p * 7 + 3) (by have := hp.1; omega) hL1
      by_cases h3 : p < (b.length : Int)
      · have hA := hb.rd p
        have e5 : wrap64 (rd b p) = rd b p := w64 (by omega) (by omega)
        have m3 := tmod_in hA.1 (n := n) (by omega)
        refine ⟨Int.tmod (rd b p) n, ⟨1, fun k hk => ?_⟩, m3.1, fun _ => m3.2⟩
        obtain ⟨m, rfl⟩ : ∃ m, k = m + 1 := ⟨k - 1, by omega⟩
        simp only [spec_l30Rd_pick.f]
        rw [if_neg h1]
        simp only [spec_l30Rd_pick.j0]
        rw [if_neg (by simpa using h2), e1, e2, if_pos h3, if_pos hp.1, if_neg (by omega), e5]
      · have hA := hb.rd (Int.tmod p b.length)
        have hB := hb.rd (Int.tmod (p * 7 + 3) b.length)
        have f1 : wrap64 (rd b (Int.tmod p b.length)) = rd b (Int.tmod p b.length) := w64 (by omega) (by omega)
        have f2 : wrap64 (rd b (Int.tmod (p * 7 + 3) b.length)) = rd b (Int.tmod (p * 7 + 3) b.length) := w64 (by omega) (by omega)
        have hD : 0 ≤ Int.tdiv p b.length ∧ Int.tdiv p b.length ≤ 1000000000 := by
          rw [Int.tdiv_eq_ediv_of_nonneg hp.1]
          exact ⟨Int.ediv_nonneg hp.1 (by omega), Int.le_trans (Int.ediv_le_self _ hp.1) hp.2⟩
        have g1 : wrap64 (rd b (Int.tmod p b.length) * 131) = rd b (Int.tmod p b.length) * 131 := w64 (by omega) (by omega)
        have g2 : wrap64 (rd b (Int.tmod (p * 7 + 3) b.length) * 1117) = rd b (Int.tmod (p * 7 + 3) b.length) * 1117 := w64 (by omega) (by omega)
        have g3 : wrap64 (p * 29) = p * 29 := w64 (by have := hp.1; omega) (by have := hp.2; omega)
        have g4 : wrap64 (Int.tdiv p b.length) = Int.tdiv p b.length := w64 (by omega) (by omega)
        have g5 : wrap64 (Int.tdiv p b.length * 53) = Int.tdiv p b.length * 53 := w64 (by omega) (by omega)
        have g6 : wrap64 (rd b (Int.tmod p b.length) * 131 + rd b (Int.tmod (p * 7 + 3) b.length) * 1117) = rd b (Int.tmod p b.length) * 131 + rd b (Int.tmod (p * 7 + 3) b.length) * 1117 := w64 (by omega) (by omega)
        have g7 : wrap64 (rd b (Int.tmod p b.length) * 131 + rd b (Int.tmod (p * 7 + 3) b.length) * 1117 + p * 29) = rd b (Int.tmod p b.length) * 131 + rd b (Int.tmod (p * 7 + 3) b.length) * 1117 + p * 29 := w64 (by have := hp.1; omega) (by have := hp.2; omega)
        obtain ⟨X, hX⟩ : ∃ X, X = rd b (Int.tmod p b.length) * 131 + rd b (Int.tmod (p * 7 + 3) b.length) * 1117 + p * 29 + Int.tdiv p b.length * 53 := ⟨_, rfl⟩
        have hX0 : 0 ≤ X ∧ X ≤ 1000000000000 := by have := hp.1; have := hp.2; omega
        have hY : 0 ≤ Int.tdiv X 64 ∧ Int.tdiv X 64 ≤ 1000000000000 := by
          rw [Int.tdiv_eq_ediv_of_nonneg hX0.1]
          omega
        have g8 : wrap64 X = X := w64 (by omega) (by omega)
        have g9 : wrap64 (Int.tdiv X 64) = Int.tdiv X 64 := w64 (by omega) (by omega)
        have hx := xor_nn hX0.1 hY.1 (by omega) (by omega)
        have m3 := tmod_in hx.1 (n := n) (by omega)
        refine ⟨Int.tmod (Go.bits .xor .i64 X (Int.tdiv X 64)) n, ⟨1, fun k hk => ?_⟩, m3.1, fun _ => m3.2⟩
        obtain ⟨m, rfl⟩ : ∃ m, k = m + 1 := ⟨k - 1, by omega⟩
        simp only [spec_l30Rd_pick.f]
        rw [if_neg h1]
        simp only [spec_l30Rd_pick.j0]
        rw [if_neg (by simpa using h2)]
        simp only [e1, e2, e3, e4, f1, f2, g1, g2, g3, g4, g5, g6, g7, g8, ← hX, g9]
        rw [if_neg h3, if_neg h2, if_pos m1.1, if_pos m1.2, if_pos m2.1, if_pos m2.2, if_neg (by omega)]
theorem of_ev {b : List Int} (hb : Code b) {p : Int} (hp : Pl p) {l : List ByteArray} (h0 : 0 < l.length) (hn : l.length ≤ 1000000) :
    ∃ s, Ev (fun k => spec_l30Rd_of.f k b p l) (s, p + 1) ∧ s ∈ l := by
  obtain ⟨v, hv, h1, h2⟩ := pick_ev hb hp (n := l.length) (by omega)
  obtain ⟨i, rfl⟩ := toNat_of h1
  have hi : i < l.length := by omega
  refine ⟨l[i], ?_, List.getElem_mem hi⟩
  unfold spec_l30Rd_of.f
  refine Ev.bind hv ?_
  refine Ev.posf h1 (Ev.posf (by show ((i : Int)) < _; omega) ?_)
  rw [rdAt hi]
  exact Ev.now _
theorem one_ev {b : List Int} (hb : Code b) {p : Int} (hp : Pl p) {l : List Int} (h0 : 0 < l.length) (hn : l.length ≤ 1000000) :
    ∃ s, Ev (fun k => spec_l30Rd_one.f k b p l) (s, p + 1) ∧ s ∈ l := by
  obtain ⟨v, hv, h1, h2⟩ := pick_ev hb hp (n := l.length) (by omega)
  obtain ⟨i, rfl⟩ := toNat_of h1
  have hi : i < l.length := by omega
  refine ⟨l[i], ?_, List.getElem_mem hi⟩
  unfold spec_l30Rd_one.f
  refine Ev.bind hv ?_
  refine Ev.posf h1 (Ev.posf (by show ((i : Int)) < _; omega) ?_)
  rw [rdI hi]
  exact Ev.now _
theorem line_ev {b : List Int} (hb : Code b) {p : Int} (hp : Pl p) : ∃ s, Ev (fun k => spec_l30Line.f k b p) (s, p + 1) ∧ s.size ≤ 100 := by
  unfold spec_l30Line.f
  obtain ⟨s, hs, hm⟩ := of_ev hb hp (l := [⟨#[97]⟩, ⟨#[98]⟩, ⟨#[99]⟩, ⟨#[100]⟩, ⟨#[]⟩, ⟨#[120, 32, 121]⟩, ⟨#[115, 101, 101, 32, 97]⟩, ⟨#[115, 101, 101, 32, 100, 47, 101]⟩, ⟨#[101, 110, 100]⟩]) (by simp) (by simp)
  refine ⟨s, Ev.bind hs (Ev.now _), ?_⟩
  simp only [List.mem_cons, List.not_mem_nil, or_false] at hm
  rcases hm with rfl | rfl | rfl | rfl | rfl | rfl | rfl | rfl | rfl <;> decide
theorem Pl.add {p : Int} (h : 0 ≤ p ∧ p ≤ 1000000) {c : Int} (h0 : 0 ≤ c) (h1 : c ≤ 1000000) : Pl (p + c) := ⟨by omega, by omega⟩
theorem text0_ev {b : List Int} (hb : Code b) : ∀ (d : Nat) (out : List ByteArray) (p : Int), 0 ≤ p → p + d ≤ 1000000000 → out.length + d ≤ 1000000 → Sz out →
    ∃ r, Ev (fun k => spec_l30Text.l0 k out d b p) (r, p + d) ∧ r.length = out.length + d ∧ Sz r
  | 0, out, p, h0, h1, h2, hz => by
    refine ⟨out, ⟨1, fun k hk => ?_⟩, rfl, hz⟩
    obtain ⟨m, rfl⟩ : ∃ m, k = m + 1 := ⟨k - 1, by omega⟩
    simp [spec_l30Text.l0]
  | d + 1, out, p, h0, h1, h2, hz => by
    obtain ⟨s, hs, hs1⟩ := line_ev hb (p := p) ⟨h0, by omega⟩
    obtain ⟨r, hr, hl, hz2⟩ := text0_ev hb d (out ++ [s]) (p + 1) (by omega) (by omega) (by simp; omega) (hz.app (Sz.one hs1))
    refine ⟨r, ?_, by rw [hl]; simp; omega, hz2⟩
    refine Ev.step (f := fun k => if (((d + 1 : Nat) : Int)) > 0 then ((spec_l30Line.f k b p).bind fun bt237 => (if out.length < 8796093022208 then (spec_l30Text.l0 k (out ++ [bt237.1]) (wrap64 ((((d + 1 : Nat) : Int)) - 1)) b bt237.2) else (none))) else (some (out, p))) (fun k => rfl) ?_
    refine Ev.posf (by omega) (Ev.bind hs (Ev.posf (by omega) ?_))
    rw [show wrap64 (((d + 1 : Nat) : Int) - 1) = (d : Int) by rw [w64 (by omega) (by omega)]; omega]
    exact EvT hr (by rw [show p + 1 + (d : Int) = p + ((d + 1 : Nat) : Int) by omega])
theorem text_ev {b : List Int} (hb : Code b) {p : Int} (h0 : 0 ≤ p) (h1 : p ≤ 1000000) : ∃ r q, Ev (fun k => spec_l30Text.f k b p) (r, q) ∧ r.length ≤ 8 ∧ Sz r ∧ p ≤ q ∧ q ≤ p + 9 := by
  obtain ⟨v, hv, hm⟩ := one_ev hb (p := p) ⟨h0, by omega⟩ (l := [0, 1, 3, 5, 8]) (by simp) (by simp)
  have hv8 : 0 ≤ v ∧ v ≤ 8 := by simp at hm; omega
  obtain ⟨d, rfl⟩ := toNat_of hv8.1
  obtain ⟨r, hr, hl, hz⟩ := text0_ev hb d [] (p + 1) (by omega) (by omega) (by simp; omega) Sz.nil
  refine ⟨r, p + 1 + d, ?_, by rw [hl]; simp; omega, hz, ?_, ?_⟩
  · unfold spec_l30Text.f
    exact Ev.bind hv hr
  · omega
  · omega
theorem turn0_ev {b : List Int} (hb : Code b) : ∀ (d : Nat) (out : List ByteArray) (p : Int), 0 ≤ p → p + 3 * d ≤ 1000000000 → out.length ≤ 1000 → Sz out →
    ∃ r q, Ev (fun k => spec_l30Turn.l0 k out d b p) (r, q) ∧ r.length ≤ max out.length 10 ∧ Sz r ∧ p ≤ q ∧ q ≤ p + 3 * d
  | 0, out, p, h0, h1, h2, hz => by
    refine ⟨out, p, ⟨1, fun k hk => ?_⟩, by omega, hz, by omega, by omega⟩
    obtain ⟨m, rfl⟩ : ∃ m, k = m + 1 := ⟨k - 1, by omega⟩
    simp [spec_l30Turn.l0]
  | d + 1, out, p, h0, h1, h2, hz => by
    have e1 : wrap64 ((out.length : Int) + 1) = out.length + 1 := w64 (by omega) (by omega)
    have e2 : wrap64 (((d + 1 : Nat) : Int) - 1) = (d : Int) := by rw [w64 (by omega) (by omega)]; omega
    obtain ⟨i, hi, hi0, hi1⟩ := pick_ev hb (p := p) ⟨h0, by omega⟩ (n := out.length + 1) (by omega)
    obtain ⟨c, hc, hc0, hc1⟩ := pick_ev hb (p := p + 1) ⟨by omega, by omega⟩ (n := 3) (by omega)
    obtain ⟨s, hs, hs1⟩ := line_ev hb (p := p + 1 + 1) ⟨by omega, by omega⟩
    have hi2 : i ≤ out.length := by have := hi1 (by omega); omega
    obtain ⟨n, rfl⟩ := toNat_of hi0
    have step : ∀ (o2 : List ByteArray) (q : Int), o2.length ≤ max out.length 10 → Sz o2 → p ≤ q → q ≤ p + 3 → (∀ r, Ev (fun k => spec_l30Turn.l0 k o2 d b q) r → Ev (fun k => spec_l30Turn.l0 (k + 1) out ((d + 1 : Nat) : Int) b p) r) →
        ∃ r q, Ev (fun k => spec_l30Turn.l0 k out ((d + 1 : Nat) : Int) b p) (r, q) ∧ r.length ≤ max out.length 10 ∧ Sz r ∧ p ≤ q ∧ q ≤ p + 3 * ((d + 1 : Nat) : Int) := by
      intro o2 q g1 gz g2 g3 g4
      obtain ⟨r, q', hr, hl, hz2, g5, g6⟩ := turn0_ev hb d o2 q (by omega) (by omega) (by omega) gz
      exact ⟨r, q', Ev.step' (g4 _ hr), by omega, hz2, by omega, by omega⟩
    have wn : wrap64 ((n : Int) + 1) = n + 1 := w64 (by omega) (by omega)
    have hd : ((d + 1 : Nat) : Int) > 0 := by omega
    by_cases c0 : c = 0
    · by_cases g : (out.length : Int) < 10
      · refine step (([] ++ out.take (n : Int).toNat) ++ [s] ++ out.drop (n : Int).toNat) (p + 1 + 1 + 1) (by simp; omega) (((Sz.nil.app (hz.take _)).app (Sz.one hs1)).app (hz.drop _)) (by omega) (by omega) (fun r h => ?_)
        simp only [spec_l30Turn.l0, e1, e2]
        exact Ev.posf hd (Ev.bind hi (Ev.bind hc (Ev.posf c0 (Ev.posf g (Ev.somef (Ev.posf hi0 (Ev.posf hi2 (Ev.somef (Ev.posf (by simp; omega) (Ev.somef (Ev.bind hs (Ev.posf (by simp; omega) (Ev.somef (Ev.somef (Ev.posf (by simp; omega) h)))))))))))))))
      · refine step out (p + 1 + 1) (by omega) hz (by omega) (by omega) (fun r h => ?_)
        simp only [spec_l30Turn.l0, e1, e2]
        exact Ev.posf hd (Ev.bind hi (Ev.bind hc (Ev.posf c0 (Ev.negf g h))))
    · by_cases c1 : c = 1
      · by_cases g : (n : Int) < out.length
        · refine step (([] ++ out.take (n : Int).toNat) ++ out.drop ((n : Int) + 1).toNat) (p + 1 + 1) (by simp; omega) ((Sz.nil.app (hz.take _)).app (hz.drop _)) (by omega) (by omega) (fun r h => ?_)
          simp only [spec_l30Turn.l0, e1, e2]
          refine Ev.posf hd (Ev.bind hi (Ev.bind hc ?_))
          simp only [wn, Option.bind_some]
          exact Ev.negf c0 (Ev.posf c1 (Ev.posf g (Ev.posf hi0 (Ev.posf hi2 (Ev.posf (by simp; omega) (Ev.posf (by omega) (Ev.posf (by omega) (Ev.posf (by simp; omega) h))))))))
        · refine step out (p + 1 + 1) (by omega) hz (by omega) (by omega) (fun r h => ?_)
          simp only [spec_l30Turn.l0, e1, e2]
          exact Ev.posf hd (Ev.bind hi (Ev.bind hc (Ev.negf c0 (Ev.posf c1 (Ev.negf g h)))))
      · by_cases g : (n : Int) < out.length
        · refine step (out.set (n : Int).toNat s) (p + 1 + 1 + 1) (by simp; omega) (hz.set _ hs1) (by omega) (by omega) (fun r h => ?_)
          simp only [spec_l30Turn.l0, e1, e2]
          exact Ev.posf hd (Ev.bind hi (Ev.bind hc (Ev.negf c0 (Ev.negf c1 (Ev.posf g (Ev.bind hs (Ev.posf hi0 h)))))))
        · refine step out (p + 1 + 1) (by omega) hz (by omega) (by omega) (fun r h => ?_)
          simp only [spec_l30Turn.l0, e1, e2]
          exact Ev.posf hd (Ev.bind hi (Ev.bind hc (Ev.negf c0 (Ev.negf c1 (Ev.negf g h)))))
theorem turn_ev {b : List Int} (hb : Code b) {p : Int} (h0 : 0 ≤ p) (h1 : p ≤ 1000000) (t : List ByteArray) (ht : t.length ≤ 1000) (hz : Sz t) :
    ∃ r q, Ev (fun k => spec_l30Turn.f k b p t) (r, q) ∧ r.length ≤ max t.length 10 ∧ Sz r ∧ p ≤ q ∧ q ≤ p + 10 := by
  obtain ⟨c, hc, hc0, hc1⟩ := pick_ev hb (p := p) ⟨h0, by omega⟩ (n := 4) (by omega)
  have hc2 := hc1 (by omega)
  obtain ⟨d, rfl⟩ := toNat_of hc0
  obtain ⟨r, q, hr, hl, hz2, g1, g2⟩ := turn0_ev hb d ([] ++ t) (p + 1) (by omega) (by omega) (by simpa using ht) (Sz.nil.app hz)
  refine ⟨r, q, ?_, by simpa using hl, hz2, by omega, by omega⟩
  unfold spec_l30Turn.f
  exact Ev.somef (Ev.posf (by simp; omega) (Ev.bind hc hr))
theorem open_ev {l : List Int} (hw : ∀ x ∈ l, 0 ≤ x ∧ x ≤ 255) : ∃ b, spec_l30Open.f l = some (b, 0) ∧ Code b := by
  unfold spec_l30Open.f
  by_cases h : (l.length : Int) > 2000
  · exact ⟨l.take 2000, by rw [if_pos h, if_pos (by omega)], by simp; omega, fun x hx => hw x (List.mem_of_mem_take hx)⟩
  · exact ⟨l, by rw [if_neg h], by omega, hw⟩
end Go.Proofs.Ytfnhjaiioojbkaa.Q
end
section
namespace Go.Proofs.Ytfnhjaiioojbkaa.Q
open Go.RowKit Go.Proofs.YtfnhjaiioojbkaaW.PrintWords
set_option linter.unusedVariables false
set_option linter.unusedSimpArgs false
def okc (c : UInt8) : Bool := decide (32 ≤ c.toNat) && decide (c.toNat ≤ 126)
def lineB (s : ByteArray) : Bool := s.data.toList.all okc && decide (s.size ≤ 12)
def textB (l : List ByteArray) : Bool := decide (l.length ≤ 10) && l.all lineB
/-- Not too long for a loop over it. -/
def Sm (l : List ByteArray) : Prop := l.length ≤ 1000000 ∧ ∀ s ∈ l, s.size ≤ 1000000
theorem bt_nat {s : ByteArray} {i : Nat} (h : i < s.size) : bt s (i : Int) = ((s.data.toList[i]'(by simpa using h)).toNat : Int) := by
  simp [bt, h]
  rfl
theorem drop_all {α : Type} (p : α → Bool) (l : List α) (i : Nat) (h : i < l.length) : (l.drop i).all p = (p l[i] && (l.drop (i + 1)).all p) := by
  rw [List.drop_eq_getElem_cons h, List.all_cons]
theorem implLine0_ev (s : ByteArray) (hs : s.size ≤ 1000000) : ∀ (d i : Nat), i ≤ s.size → s.size - i = d →
    Ev (fun k => impl_lineOk.l0 k s s.size i) ((s.data.toList.drop i).all okc && decide (s.size ≤ 12))
  | 0, i, hi, hd => by
    refine Ev.step' ?_
    simp only [impl_lineOk.l0]
    refine Ev.negf (by omega) ?_
    have e : s.data.toList.drop i = [] := List.drop_eq_nil_of_le (by have : s.data.toList.length = s.size := by simp
                                                                     omega)
    rw [e]
    exact EvT (Ev.now _) (by simp; omega)
  | d + 1, i, hi, hd => by
    have hl : i < s.size := by omega
    have hl2 : i < s.data.toList.length := by simpa using hl
    refine Ev.step' ?_
    simp only [impl_lineOk.l0]
    rw [drop_all okc _ i hl2, bt_nat hl]
    refine Ev.posf (by omega) (Ev.posf (by omega) (Ev.posf (by omega) ?_))
    by_cases h1 : (((s.data.toList[i]'hl2).toNat : Nat) : Int) < 32
    · refine Ev.posf h1 (EvT (Ev.now _) ?_)
      have : okc (s.data.toList[i]'hl2) = false := by simp only [okc, Bool.and_eq_false_iff, decide_eq_false_iff_not]; omega
      rw [this]; rfl
    · by_cases h2 : (((s.data.toList[i]'hl2).toNat : Nat) : Int) > 126
      · refine Ev.negf h1 (Ev.posf h2 (EvT (Ev.now _) ?_))
        have : okc (s.data.toList[i]'hl2) = false := by simp only [okc, Bool.and_eq_false_iff, decide_eq_false_iff_not]; omega
        rw [this]; rfl
      · refine Ev.negf h1 (Ev.negf h2 ?_)
        have : okc (s.data.toList[i]'hl2) = true := by simp only [okc, Bool.and_eq_true, decide_eq_true_eq]; omega
        rw [this, Bool.true_and, show wrap64 ((i : Int) + 1) = ((i + 1 : Nat) : Int) by rw [w64 (by omega) (by omega)]; omega]
        exact implLine0_ev s hs d (i + 1) (by omega) (by omega)
theorem implLine_ev (s : ByteArray) (hs : s.size ≤ 1000000) : Ev (fun k => impl_lineOk.f k s) (lineB s) := by
  unfold impl_lineOk.f
  exact EvT (implLine0_ev s hs _ 0 (by omega) rfl) (by simp [lineB])
theorem specLine0_ev (s : ByteArray) (hs : s.size ≤ 1000000) : ∀ (d i : Nat), i ≤ s.size → s.size - i = d →
    Ev (fun k => spec_l1Line.l0 k s i) ((s.data.toList.drop i).all okc && decide (s.size ≤ 12))
  | 0, i, hi, hd => by
    refine Ev.step' ?_
    simp only [spec_l1Line.l0]
    refine Ev.negf (by omega) ?_
    have e : s.data.toList.drop i = [] := List.drop_eq_nil_of_le (by have : s.data.toList.length = s.size := by simp
                                                                     omega)
    rw [e]
    exact EvT (Ev.now _) (by simp; omega)
  | d + 1, i, hi, hd => by
    have hl : i < s.size := by omega
    have hl2 : i < s.data.toList.length := by simpa using hl
    refine Ev.step' ?_
    simp only [spec_l1Line.l0]
    rw [drop_all okc _ i hl2, bt_nat hl]
    refine Ev.posf (by omega) (Ev.posf (by omega) ?_)
    by_cases h1 : (((s.data.toList[i]'hl2).toNat : Nat) : Int) < 32
    · refine Ev.posf h1 (EvT (Ev.now _) ?_)
      have : okc (s.data.toList[i]'hl2) = false := by simp only [okc, Bool.and_eq_false_iff, decide_eq_false_iff_not]; omega
      rw [this]; rfl
    · by_cases h2 : (((s.data.toList[i]'hl2).toNat : Nat) : Int) > 126
      · refine Ev.negf h1 (Ev.posf h2 (EvT (Ev.now _) ?_))
        have : okc (s.data.toList[i]'hl2) = false := by simp only [okc, Bool.and_eq_false_iff, decide_eq_false_iff_not]; omega
        rw [this]; rfl
      · refine Ev.negf h1 (Ev.negf h2 ?_)
        have : okc (s.data.toList[i]'hl2) = true := by simp only [okc, Bool.and_eq_true, decide_eq_true_eq]; omega
        rw [this, Bool.true_and, show wrap64 ((i : Int) + 1) = ((i + 1 : Nat) : Int) by rw [w64 (by omega) (by omega)]; omega]
        exact specLine0_ev s hs d (i + 1) (by omega) (by omega)
theorem specLine_ev (s : ByteArray) (hs : s.size ≤ 1000000) : Ev (fun k => spec_l1Line.f k s) (lineB s) := by
  unfold spec_l1Line.f
  exact EvT (specLine0_ev s hs _ 0 (by omega) rfl) (by simp [lineB])
theorem anyF_ev {α : Type} (f : Nat → α → Option Bool) (p : α → Bool) : ∀ l : List α, (∀ x ∈ l, Ev (fun k => f k x) (p x)) → Ev (fun k => anyF (f k) l) (l.any p)
  | [], h => Ev.now _
  | x :: t, h => by
    show Ev (fun k => (f k x).bind fun b => if b then some true else anyF (f k) t) ((x :: t).any p)
    refine Ev.bind (h x List.mem_cons_self) ?_
    cases e : p x with
    | true => exact EvT (Ev.posf rfl (Ev.now _)) (by simp [e])
    | false => exact EvT (Ev.negf (by simp) (anyF_ev f p t (fun y hy => h y (List.mem_cons_of_mem _ hy)))) (by simp [e])
theorem implText_ev (l : List ByteArray) (hl : Sm l) : Ev (fun k => impl_TextOk.f k l) (textB l) := by
  unfold impl_TextOk.f
  by_cases c : l.length ≤ 10
  · refine Ev.posf c (EvT (Ev.mapf _ (anyF_ev impl_TextOk_1.f (fun s => !lineB s) l (fun x hx => ?_))) ?_)
    · unfold impl_TextOk_1.f
      exact Ev.bind (implLine_ev x (hl.2 x hx)) (Ev.now _)
    · rw [textB, decide_eq_true c, Bool.true_and, ← List.not_all_eq_any_not]
      simp
  · exact Ev.negf c (EvT (Ev.now _) (by simp [textB]; omega))
theorem specText0_ev (l : List ByteArray) (hl : Sm l) : ∀ (d i : Nat), i ≤ l.length → l.length - i = d →
    Ev (fun k => spec_l1Ok.l0 k l i) ((l.drop i).all lineB && decide (l.length ≤ 10))
  | 0, i, hi, hd => by
    refine Ev.step' ?_
    simp only [spec_l1Ok.l0]
    refine Ev.negf (by omega) ?_
    rw [List.drop_eq_nil_of_le (by omega)]
    exact EvT (Ev.now _) (by simp; omega)
  | d + 1, i, hi, hd => by
    have hlt : i < l.length := by omega
    have hl1 := hl.1
    refine Ev.step' ?_
    simp only [spec_l1Ok.l0]
    rw [drop_all lineB l i hlt, rdAt hlt]
    refine Ev.posf (by omega) (Ev.posf (by omega) (Ev.bind (specLine_ev _ (hl.2 _ (List.getElem_mem hlt))) ?_))
    cases e : lineB l[i] with
    | false => exact Ev.negf (by simp) (EvT (Ev.now _) (by simp))
    | true =>
      refine Ev.posf rfl ?_
      rw [Bool.true_and, show wrap64 ((i : Int) + 1) = ((i + 1 : Nat) : Int) by rw [w64 (by omega) (by omega)]; omega]
      exact specText0_ev l hl d (i + 1) (by omega) (by omega)
theorem specText_ev (l : List ByteArray) (hl : Sm l) : Ev (fun k => spec_l1Ok.f k l) (textB l) := by
  unfold spec_l1Ok.f
  exact EvT (specText0_ev l hl _ 0 (by omega) rfl) (by simp [textB, Bool.and_comm])
theorem smTexts0_ev (a b : List ByteArray) (h : a.length = b.length) (hs : a.length ≤ 100000000) : ∀ (d i : Nat), i ≤ a.length → a.length - i = d →
    ∃ r, Ev (fun k => laws_smTexts.l0 k a b i) r ∧ (r = true ↔ a.drop i = b.drop i)
  | 0, i, hi, hd => by
    refine ⟨true, Ev.step' ?_, ?_⟩
    · simp only [laws_smTexts.l0]
      exact Ev.negf (by omega) (Ev.now _)
    · rw [List.drop_eq_nil_of_le (by omega), List.drop_eq_nil_of_le (by omega)]; simp
  | d + 1, i, hi, hd => by
    have h1 : i < a.length := by omega
    have h2 : i < b.length := by omega
    rw [List.drop_eq_getElem_cons h1, List.drop_eq_getElem_cons h2]
    by_cases c : a[i].toList = b[i].toList
    · obtain ⟨r, hr, he⟩ := smTexts0_ev a b h hs d (i + 1) (by omega) (by omega)
      refine ⟨r, Ev.step' ?_, ?_⟩
      · simp only [laws_smTexts.l0]
        rw [rdAt h1, rdAt h2, show wrap64 ((i : Int) + 1) = ((i + 1 : Nat) : Int) by rw [w64 (by omega) (by omega)]; omega]
        exact Ev.posf (by omega) (Ev.posf (by omega) (Ev.posf (by omega) (Ev.posf c hr)))
      · rw [he, bstr.mp c]; exact ⟨fun e => by rw [e], fun e => (List.cons.inj e).2⟩
    · refine ⟨false, Ev.step' ?_, ?_⟩
      · simp only [laws_smTexts.l0]
        rw [rdAt h1, rdAt h2]
        exact Ev.posf (by omega) (Ev.posf (by omega) (Ev.posf (by omega) (Ev.negf c (Ev.now _))))
      · exact ⟨fun e => (by cases e), fun e => absurd (bstr.mpr (List.cons.inj e).1) c⟩
theorem smTexts_ev (a b : List ByteArray) (hs : a.length ≤ 100000000) : ∃ r, Ev (fun k => laws_smTexts.f k a b) r ∧ (r = true ↔ a = b) := by
  unfold laws_smTexts.f
  by_cases h : a.length = b.length
  · obtain ⟨r, hr, he⟩ := smTexts0_ev a b h hs _ 0 (by omega) rfl
    exact ⟨r, Ev.posf (by omega) hr, by simpa using he⟩
  · exact ⟨false, Ev.negf (by omega) (Ev.now _), by simp; intro e; exact h (by rw [e])⟩
theorem smTexts_refl (a : List ByteArray) (hs : a.length ≤ 100000000) : Ev (fun k => laws_smTexts.f k a a) true := by
  obtain ⟨r, hr, he⟩ := smTexts_ev a a hs
  rw [he.mpr rfl] at hr
  exact hr
end Go.Proofs.Ytfnhjaiioojbkaa.Q
end
section
namespace Go.Proofs.Ytfnhjaiioojbkaa.Q
open Go.RowKit Go.Proofs.YtfnhjaiioojbkaaW.PrintWords
set_option linter.unusedVariables false
set_option linter.unusedSimpArgs false
abbrev Dl := S39
abbrev Tx := List ByteArray
/-- How many lines two texts begin with together. -/
def pre : Tx → Tx → Nat
  | a :: s, b :: t => if a.toList = b.toList then pre s t + 1 else 0
  | _, _ => 0
def lrGo (t : Tx) : Tx → Int → Int → Int → Int × Int
  | [], _, f, m => (f, m)
  | b :: s, i, f, m => if (pre (b :: s) t : Int) > m then lrGo t s (i + 1) i (pre (b :: s) t) else lrGo t s (i + 1) f m
def lr (base t : Tx) : Int × Int := lrGo t base 0 0 0
def dGo (base : Tx) : Nat → Tx → List Dl → List Dl
  | 0, _, out => out
  | _, [], out => out
  | n + 1, b :: t, out =>
    if (lr base (b :: t)).2 > 0 then dGo base n ((b :: t).drop (lr base (b :: t)).2.toNat) (out ++ [⟨(lr base (b :: t)).1, (lr base (b :: t)).2, []⟩])
    else if 0 < out.length ∧ (rd_T39 out ((out.length : Int) - 1)).f1 = 0 then
      dGo base n t (out.set (out.length - 1) ⟨(rd_T39 out ((out.length : Int) - 1)).f0, (rd_T39 out ((out.length : Int) - 1)).f1, (rd_T39 out ((out.length : Int) - 1)).f2 ++ [b]⟩)
    else dGo base n t (out ++ [⟨0, 0, [b]⟩])
def dOf (base t : Tx) : List Dl := dGo base t.length t []
theorem pre_nil_left (t : Tx) : pre [] t = 0 := by simp [pre]
theorem pre_nil_right : ∀ s : Tx, pre s [] = 0
  | [] => rfl
  | _ :: _ => rfl
theorem pre_cons_pos {a b : ByteArray} {s t : Tx} (h : a.toList = b.toList) : pre (a :: s) (b :: t) = pre s t + 1 := if_pos h
theorem pre_cons_neg {a b : ByteArray} {s t : Tx} (h : ¬ a.toList = b.toList) : pre (a :: s) (b :: t) = 0 := if_neg h
theorem pre_le : ∀ s t : Tx, pre s t ≤ s.length ∧ pre s t ≤ t.length
  | a :: s, b :: t => by
    have := pre_le s t
    unfold pre
    split <;> simp <;> omega
  | [], t => by simp [pre]
  | a :: s, [] => by simp [pre]
theorem pre_take : ∀ s t : Tx, s.take (pre s t) = t.take (pre s t)
  | a :: s, b :: t => by
    unfold pre
    split
    · rename_i h
      rw [List.take_succ_cons, List.take_succ_cons, pre_take s t, bstr.mp h]
    · rfl
  | [], t => by simp [pre]
  | a :: s, [] => by simp [pre]
/-- A run: lines of the base with which the text begins. -/
def Run (base t : Tx) (r : Int × Int) : Prop := 0 ≤ r.1 ∧ 0 ≤ r.2 ∧ r.1 + r.2 ≤ base.length ∧ r.2 ≤ t.length ∧ (base.drop r.1.toNat).take r.2.toNat = t.take r.2.toNat
theorem lrGo_run (base t : Tx) : ∀ (s : Tx) (i : Nat) (f m : Int), base.drop i = s → i + s.length = base.length → Run base t (f, m) → Run base t (lrGo t s i f m)
  | [], i, f, m, hs, hl, h => h
  | b :: s, i, f, m, hs, hl, h => by
    have hs' : base.drop (i + 1) = s := by rw [← List.drop_drop, hs]; rfl
    have hl' : i + 1 + s.length = base.length := by simp at hl; omega
    have hp := pre_le (b :: s) t
    unfold lrGo
    split
    · refine lrGo_run base t s (i + 1) _ _ hs' hl' ⟨by simp, by simp, ?_, ?_, ?_⟩
      · simp at hp ⊢; omega
      · simp at hp ⊢; omega
      · simp only [Int.toNat_natCast]
        rw [hs]
        exact pre_take _ _
    · exact lrGo_run base t s (i + 1) f m hs' hl' h
theorem lr_run (base t : Tx) : Run base t (lr base t) := lrGo_run base t base 0 0 0 rfl (by simp) ⟨by simp, by simp, by simp, by simp, by simp⟩
/-- What a piece makes. -/
def seg (base : Tx) (x : Dl) : Tx := (base.take (x.f0 + x.f1).toNat).drop x.f0.toNat ++ x.f2
def ap (base : Tx) (d : List Dl) : Tx := d.flatMap (seg base)
def Piece (base : Tx) (x : Dl) : Prop := (1 ≤ x.f1 ∧ 0 ≤ x.f0 ∧ x.f0 + x.f1 ≤ base.length ∧ x.f2 = []) ∨ (x.f0 = 0 ∧ x.f1 = 0 ∧ 1 ≤ x.f2.length)
theorem piece_len {base : Tx} {x : Dl} (h : Piece base x) : 1 ≤ (seg base x).length ∧ x.f2.length ≤ (seg base x).length ∧ 0 ≤ x.f0 ∧ 0 ≤ x.f1 ∧ x.f0 + x.f1 ≤ base.length := by
  unfold seg
  rcases h with ⟨h1, h2, h3, h4⟩ | ⟨h1, h2, h3⟩
  · simp [h4]; omega
  · simp [h1, h2]; omega
theorem ap_snoc (base : Tx) (d : List Dl) (x : Dl) : ap base (d ++ [x]) = ap base d ++ seg base x := by simp [ap]
theorem ap_len {base : Tx} : ∀ {d : List Dl}, (∀ x ∈ d, Piece base x) → d.length ≤ (ap base d).length
  | [], _ => by simp
  | x :: d, h => by
    have h1 := (piece_len (h x List.mem_cons_self)).1
    have h2 := ap_len (fun y hy => h y (List.mem_cons_of_mem _ hy)) (d := d)
    simp [ap] at h2 ⊢
    omega
theorem mem_ap {base : Tx} {d : List Dl} {x : Dl} (hx : x ∈ d) {s : ByteArray} (hs : s ∈ x.f2) : s ∈ ap base d := by
  simp only [ap, List.mem_flatMap]
  exact ⟨x, hx, by simp [seg, hs]⟩
theorem rdD {d : List Dl} {i : Nat} (h : i < d.length) : rd_T39 d (i : Int) = d[i] := by
  simp [rd_T39, List.getD_eq_getElem?_getD, h]
theorem rd_last {d : List Dl} (x : Dl) : rd_T39 (d ++ [x]) (((d ++ [x]).length : Int) - 1) = x := by
  have e : (((d ++ [x]).length : Int) - 1) = ((d.length : Nat) : Int) := by simp
  rw [e, rdD (by simp)]
  simp
theorem set_last (d : List Dl) (x y : Dl) : (d ++ [x]).set ((d ++ [x]).length - 1) y = d ++ [y] := by
  simp
/-- The last piece, as the text has it. -/
theorem last_of {d : List Dl} (h : 0 < d.length) : ∃ d' x, d = d' ++ [x] := ⟨d.dropLast, d.getLast (by intro e; rw [e] at h; simp at h), (List.dropLast_concat_getLast _).symm⟩
theorem dGo_right (base : Tx) : ∀ (n : Nat) (t : Tx) (out : List Dl), t.length ≤ n → (∀ x ∈ out, Piece base x) → ap base (dGo base n t out) = ap base out ++ t ∧ ∀ x ∈ dGo base n t out, Piece base x
  | 0, t, out, hn, h => by
    have : t = [] := List.eq_nil_of_length_eq_zero (by omega)
    subst this
    simpa [dGo] using h
  | n + 1, [], out, hn, h => by simpa [dGo] using h
  | n + 1, b :: t, out, hn, h => by
    have hr := lr_run base (b :: t)
    unfold dGo
    by_cases c : (lr base (b :: t)).2 > 0
    · rw [if_pos c]
      obtain ⟨r1, r2, r3, r4, r5⟩ := hr
      have hp : Piece base ⟨(lr base (b :: t)).1, (lr base (b :: t)).2, []⟩ := .inl ⟨by show 1 ≤ (lr base (b :: t)).2; omega, r1, r3, rfl⟩
      have := dGo_right base n ((b :: t).drop (lr base (b :: t)).2.toNat) (out ++ [⟨(lr base (b :: t)).1, (lr base (b :: t)).2, []⟩]) (by simp at hn ⊢; omega)
        (fun x hx => by simp at hx; rcases hx with hx | rfl; exact h x hx; exact hp)
      refine ⟨?_, this.2⟩
      rw [this.1, ap_snoc, List.append_assoc]
      congr 1
      show (base.take ((lr base (b :: t)).1 + (lr base (b :: t)).2).toNat).drop (lr base (b :: t)).1.toNat ++ [] ++ _ = _
      rw [show ((lr base (b :: t)).1 + (lr base (b :: t)).2).toNat = (lr base (b :: t)).1.toNat + (lr base (b :: t)).2.toNat by omega, List.append_nil, ← List.take_drop, r5, List.take_append_drop]
    · rw [if_neg c]
      split
      · rename_i g
        obtain ⟨d, x, rfl⟩ := last_of g.1
        rw [rd_last, set_last]
        rw [rd_last] at g
        have hx := h x (by simp)
        have hx2 : x.f0 = 0 ∧ 1 ≤ x.f2.length := by
          rcases hx with ⟨h1, _⟩ | ⟨h1, _, h3⟩
          · exact absurd g.2 (by omega)
          · exact ⟨h1, h3⟩
        have := dGo_right base n t (d ++ [⟨x.f0, x.f1, x.f2 ++ [b]⟩]) (by simp at hn; omega)
          (fun y hy => by simp at hy; rcases hy with hy | rfl; exact h y (by simp [hy]); exact .inr ⟨hx2.1, g.2, by simp⟩)
        refine ⟨?_, this.2⟩
        rw [this.1, ap_snoc, ap_snoc]
        simp [seg]
      · have := dGo_right base n t (out ++ [⟨0, 0, [b]⟩]) (by simp at hn; omega)
          (fun y hy => by simp at hy; rcases hy with hy | rfl; exact h y hy; exact .inr ⟨rfl, rfl, by simp⟩)
        refine ⟨?_, this.2⟩
        rw [this.1, ap_snoc]
        simp [seg]
theorem dOf_right (base t : Tx) : ap base (dOf base t) = t ∧ ∀ x ∈ dOf base t, Piece base x := by
  have := dGo_right base t.length t [] (Nat.le_refl _) (by simp)
  simpa [ap, dOf] using this
end Go.Proofs.Ytfnhjaiioojbkaa.Q
end
section
namespace Go.Proofs.Ytfnhjaiioojbkaa.Q
open Go.RowKit Go.Proofs.YtfnhjaiioojbkaaW.PrintWords
set_option linter.unusedVariables false
set_option linter.unusedSimpArgs false
theorem specRun1_ev {base t : Tx} (hb : base.length ≤ 1000000) (ht : t.length ≤ 1000000) (i : Nat) (f m : Int) (r : Int × Int) : ∀ (d n N : Nat), base.length - (i + n) = d → i + n ≤ base.length → n ≤ t.length → N = n + pre (base.drop (i + n)) (t.drop n) →
    Ev (fun k => spec_l13Run.l0 k base t (if (N : Int) > m then i else f) (if (N : Int) > m then (N : Int) else m) ((i + 1 : Nat) : Int)) r →
    Ev (fun k => spec_l13Run.l1 k base t f m i n) r := by
  intro d
  induction d with
  | zero =>
    intro n N hd h1 h2 hN h
    have e : base.drop (i + n) = [] := List.drop_eq_nil_of_le (by omega)
    have hNn : n = N := by rw [hN, e, pre_nil_left, Nat.add_zero]
    subst hNn
    refine Ev.step' ?_
    simp only [spec_l13Run.l1, w64_add i n (by omega), w64_succ i (by omega)]
    refine Ev.negf (by omega) ?_
    by_cases c : (n : Int) > m
    · rw [if_pos c, if_pos c] at h; exact Ev.posf c h
    · rw [if_neg c, if_neg c] at h; exact Ev.negf c h
  | succ d ih =>
    intro n N hd h1 h2 hN h
    have g1 : i + n < base.length := by omega
    refine Ev.step' ?_
    simp only [spec_l13Run.l1, w64_add i n (by omega), w64_succ i (by omega), w64_succ n (by omega)]
    refine Ev.posf (by omega) ?_
    by_cases g2 : n < t.length
    · refine Ev.posf (by omega) (Ev.posf (by omega) (Ev.posf (by omega) ?_))
      rw [rdAt g1, rdAt g2]
      rw [List.drop_eq_getElem_cons g1, List.drop_eq_getElem_cons g2] at hN
      by_cases c : base[i + n].toList = t[n].toList
      · rw [pre_cons_pos c] at hN
        exact Ev.posf c (ih (n + 1) N (by omega) (by omega) (by omega) (by rw [hN, show i + (n + 1) = i + n + 1 by omega]; omega) h)
      · rw [pre_cons_neg c, Nat.add_zero] at hN
        have hNn : n = N := hN.symm
        subst hNn
        refine Ev.negf c ?_
        by_cases c : (n : Int) > m
        · rw [if_pos c, if_pos c] at h; exact Ev.posf c h
        · rw [if_neg c, if_neg c] at h; exact Ev.negf c h
    · have e : t.drop n = [] := List.drop_eq_nil_of_le (by omega)
      have hNn : n = N := by rw [hN, e, pre_nil_right, Nat.add_zero]
      subst hNn
      refine Ev.negf (by omega) ?_
      by_cases c : (n : Int) > m
      · rw [if_pos c, if_pos c] at h; exact Ev.posf c h
      · rw [if_neg c, if_neg c] at h; exact Ev.negf c h
theorem specRun0_ev {base t : Tx} (hb : base.length ≤ 1000000) (ht : t.length ≤ 1000000) : ∀ (d i : Nat) (f m : Int), base.length - i = d → i ≤ base.length → Ev (fun k => spec_l13Run.l0 k base t f m i) (lrGo t (base.drop i) i f m)
  | 0, i, f, m, hd, hi => by
    rw [List.drop_eq_nil_of_le (by omega)]
    refine Ev.step' ?_
    simp only [spec_l13Run.l0]
    exact Ev.negf (by omega) (Ev.now _)
  | d + 1, i, f, m, hd, hi => by
    have g : i < base.length := by omega
    refine Ev.step' ?_
    simp only [spec_l13Run.l0]
    refine Ev.posf (by omega) (specRun1_ev hb ht i f m _ _ 0 _ rfl (by omega) (by omega) rfl ?_)
    have e := List.drop_eq_getElem_cons g
    rw [e, lrGo, ← e]
    simp only [Nat.zero_add, Nat.add_zero, List.drop_zero]
    by_cases c : (pre (base.drop i) t : Int) > m
    · rw [if_pos c, if_pos c, if_pos c]
      exact specRun0_ev hb ht d (i + 1) _ _ (by omega) (by omega)
    · rw [if_neg c, if_neg c, if_neg c]
      exact specRun0_ev hb ht d (i + 1) _ _ (by omega) (by omega)
theorem specRun_ev {base t : Tx} (hb : base.length ≤ 1000000) (ht : t.length ≤ 1000000) : Ev (fun k => spec_l13Run.f k base t) (lr base t) := by
  unfold spec_l13Run.f
  exact specRun0_ev hb ht _ 0 0 0 rfl (by omega)
theorem specOf0_ev {base : Tx} (hb : base.length ≤ 10000) : ∀ (n : Nat) (t : Tx) (out : List Dl), t.length ≤ n → n ≤ 10000 → out.length + n ≤ 20000 → (∀ x ∈ out, x.f2.length + n ≤ 20000) → Ev (fun k => spec_l13Of.l0 k base t out) (dGo base n t out)
  | 0, t, out, h1, h2, h3, h4 => by
    have : t = [] := List.eq_nil_of_length_eq_zero (by omega)
    subst this
    refine Ev.step' ?_
    simp only [spec_l13Of.l0, dGo]
    exact Ev.negf (by simp) (Ev.now _)
  | n + 1, [], out, h1, h2, h3, h4 => by
    refine Ev.step' ?_
    simp only [spec_l13Of.l0, dGo]
    exact Ev.negf (by simp) (Ev.now _)
  | n + 1, b :: t, out, h1, h2, h3, h4 => by
    obtain ⟨r1, r2, r3, r4, r5⟩ := lr_run base (b :: t)
    have hw : wrap64 ((out.length : Int) - 1) = (out.length : Int) - 1 := w64 (by omega) (by omega)
    have hlen : ((b :: t).length : Int) ≥ 1 := by rw [List.length_cons]; omega
    refine Ev.step' ?_
    simp only [spec_l13Of.l0, dGo, hw]
    refine Ev.posf (by omega) (Ev.bind (specRun_ev (by omega) (by omega)) ?_)
    by_cases c : (lr base (b :: t)).2 > 0
    · rw [if_pos c]
      refine Ev.posf c (Ev.posf (by omega) (Ev.posf r2 (Ev.posf r4 ?_)))
      exact specOf0_ev hb n _ _ (by simp at h1 ⊢; omega) (by omega) (by simp; omega) (fun x hx => by simp at hx; rcases hx with hx | rfl; (have := h4 x hx; omega); (simp; omega))
    · rw [if_neg c]
      refine Ev.negf c ?_
      have hd1 : List.drop 1 (b :: t) = t := rfl
      have hr0 : rdOf ByteArray.empty (b :: t) 0 = b := rfl
      simp only [hd1, hr0]
      by_cases g : 0 < out.length
      · refine Ev.posf (by omega) (Ev.posf (by omega) (Ev.posf (by omega) ?_))
        by_cases z : (rd_T39 out ((out.length : Int) - 1)).f1 = 0
        · rw [if_pos ⟨g, z⟩]
          have hm : rd_T39 out ((out.length : Int) - 1) ∈ out := by
            rw [show (out.length : Int) - 1 = ((out.length - 1 : Nat) : Int) by omega, rdD (by omega)]
            exact List.getElem_mem _
          have hf := h4 _ hm
          refine Ev.posf z (Ev.posf (by omega) (Ev.posf (by omega) (Ev.posf (by omega) ?_)))
          rw [show (((out.length : Int) - 1)).toNat = out.length - 1 by omega]
          exact specOf0_ev hb n _ _ (by simp at h1; omega) (by omega) (by simp; omega) (fun x hx => by
            rcases List.mem_or_eq_of_mem_set hx with hx | rfl
            · have := h4 x hx; omega
            · simp; omega)
        · rw [if_neg (fun h => z h.2)]
          refine Ev.negf z (Ev.posf (by omega) (Ev.posf (by omega) (Ev.posf (by omega) ?_)))
          exact specOf0_ev hb n _ _ (by simp at h1; omega) (by omega) (by simp; omega) (fun x hx => by simp at hx; rcases hx with hx | rfl; (have := h4 x hx; omega); (simp; omega))
      · rw [if_neg (fun h => g h.1)]
        refine Ev.negf (by omega) (Ev.posf (by omega) (Ev.posf (by omega) (Ev.posf (by omega) ?_)))
        exact specOf0_ev hb n _ _ (by simp at h1; omega) (by omega) (by simp; omega) (fun x hx => by simp at hx; rcases hx with hx | rfl; (have := h4 x hx; omega); (simp; omega))
theorem specOf_ev {base t : Tx} (hb : base.length ≤ 10000) (ht : t.length ≤ 10000) : Ev (fun k => spec_l13Of.f k base t) (dOf base t) := by
  unfold spec_l13Of.f
  exact specOf0_ev hb _ t [] (Nat.le_refl _) ht (by simp; omega) (by simp)
end Go.Proofs.Ytfnhjaiioojbkaa.Q
end
section
namespace Go.Proofs.Ytfnhjaiioojbkaa.Q
open Go.RowKit Go.Proofs.YtfnhjaiioojbkaaW.PrintWords
set_option linter.unusedVariables false
set_option linter.unusedSimpArgs false
def pB (f0 f1 : Int) (L : Nat) (T : Bool) : Bool := (decide (1 ≤ f1) && decide (0 ≤ f0) && decide (f0 ≤ 10) && decide (f1 ≤ 10 - f0) && decide (L = 0)) || (decide (f0 = 0) && decide (f1 = 0) && decide (0 < L) && T)
def pieceB (x : Dl) : Bool := pB x.f0 x.f1 x.f2.length (textB x.f2)
theorem textB_nil {l : List ByteArray} (h : l.length = 0) : textB l = true := by
  rw [List.eq_nil_of_length_eq_zero h]
  rfl
theorem pB_good {f0 f1 : Int} {L : Nat} {T bad : Bool} (hbad : bad = (!(decide (0 ≤ f0) && decide (f0 ≤ 10) && (decide (0 ≤ f1) && decide (f1 ≤ 10 - f0)) && T)))
    (c1 : bad = false) (c2 : ¬ ((decide (f1 > 0)) == (decide ((L : Int) > 0))) = true) (c3 : f1 = 0 → f0 = 0) : pB f0 f1 L T = true := by
  subst hbad
  by_cases a : f1 > 0 <;> by_cases b : (L : Int) > 0 <;> cases T <;> simp [a, b] at c1 c2 <;> simp [pB] <;> omega
theorem pB_bad {f0 f1 : Int} {L : Nat} {T bad : Bool} (hT : L = 0 → T = true) (hbad : bad = (!(decide (0 ≤ f0) && decide (f0 ≤ 10) && (decide (0 ≤ f1) && decide (f1 ≤ 10 - f0)) && T)))
    (hb : bad = true ∨ ((decide (f1 > 0)) == (decide ((L : Int) > 0))) = true ∨ (f1 = 0 ∧ f0 ≠ 0)) : pB f0 f1 L T = false := by
  subst hbad
  rw [Bool.eq_false_iff]
  intro h
  simp only [pB, Bool.or_eq_true, Bool.and_eq_true, decide_eq_true_eq] at h
  rcases h with ⟨⟨⟨⟨h1, h2⟩, h3⟩, h4⟩, h5⟩ | ⟨⟨⟨h1, h2⟩, h3⟩, h4⟩
  · have ht := hT h5
    rcases hb with hb | hb | hb
    · rw [ht, decide_eq_true h2, decide_eq_true h3, decide_eq_true h4, decide_eq_true (show 0 ≤ f1 by omega)] at hb
      cases hb
    · rw [decide_eq_true (show f1 > 0 by omega), decide_eq_false (show ¬ (L : Int) > 0 by omega)] at hb
      cases hb
    · omega
  · subst h1; subst h2; subst h4
    rcases hb with hb | hb | hb
    · simp at hb
    · rw [decide_eq_false (show ¬ (0 : Int) > 0 by omega), decide_eq_true (show (L : Int) > 0 by omega)] at hb
      cases hb
    · exact hb.2 rfl
def deltaB (d : List Dl) : Bool := decide (d.length ≤ 10) && d.all pieceB
theorem within_eq (a b c : Int) : impl_within.f a b c = some (decide (b ≤ a) && decide (a ≤ c)) := by
  unfold impl_within.f
  by_cases h : b ≤ a
  · rw [if_pos h]; simp [h]
  · rw [if_neg h]; simp [h]
theorem in_eq (a b c : Int) : spec_l1In.f a b c = some (decide (b ≤ a) && decide (a ≤ c)) := by
  unfold spec_l1In.f
  by_cases h : b ≤ a
  · rw [if_pos h]; simp [h]
  · rw [if_neg h]; simp [h]
theorem implPiece_ev (k0 k1 : Int) (l : List ByteArray) (hl : Sm l) : Ev (fun k => impl_DeltaOk_1.f k k0 k1 l) (!pieceB ⟨k0, k1, l⟩) := by
  have hT := implText_ev l hl
  unfold impl_DeltaOk_1.f
  by_cases h0 : 0 ≤ k0 ∧ k0 ≤ 10
  · have hw : wrap64 (10 - k0) = 10 - k0 := w64 (by omega) (by omega)
    simp only [within_eq, Option.bind_some, hw]
    repeat' first
      | (refine Ev.ite (fun _ => ?_) (fun _ => ?_))
      | (refine Ev.bind hT ?_)
    all_goals (refine EvT (Ev.now _) ?_; clear hT hl; show _ = !pB k0 k1 l.length (textB l); generalize textB l = T at *; generalize l.length = L at *; cases T <;> simp_all [pB] <;> omega)
  · have hn : (decide (0 ≤ k0) && decide (k0 ≤ 10)) = false := by rw [Bool.eq_false_iff]; simpa using h0
    simp only [within_eq, Option.bind_some, hn]
    repeat' first
      | (refine Ev.negf (show ¬ (false = true) by decide) ?_)
      | (refine Ev.ite (fun _ => ?_) (fun _ => ?_))
      | (refine Ev.bind hT ?_)
    all_goals (refine EvT (Ev.now _) ?_; clear hT hl; show _ = !pB k0 k1 l.length (textB l); generalize textB l = T at *; generalize l.length = L at *; cases T <;> simp_all [pB] <;> omega)
/-- Pieces whose loops are not long. -/
def SmD (d : List Dl) : Prop := d.length ≤ 1000000 ∧ ∀ x ∈ d, Sm x.f2
theorem implOk_ev (d : List Dl) (hd : SmD d) : Ev (fun k => impl_DeltaOk.f k d) (deltaB d) := by
  unfold impl_DeltaOk.f
  by_cases c : d.length ≤ 10
  · refine Ev.posf c (EvT (Ev.mapf _ (anyF_ev impl_DeltaOk.p (fun x => !pieceB x) d (fun x hx => ?_))) ?_)
    · exact implPiece_ev x.f0 x.f1 x.f2 (hd.2 x hx)
    · rw [deltaB, decide_eq_true c, Bool.true_and, ← List.not_all_eq_any_not]
      simp
  · exact Ev.negf c (EvT (Ev.now _) (by simp [deltaB]; omega))
theorem specOk1_ev (d : List Dl) (hd : SmD d) (i : Nat) (hi : i < d.length) (bad : Bool) (r : Bool)
    (hg : (bad = false → ¬ ((decide (d[i].f1 > 0)) == (decide (((d[i].f2).length : Int) > 0))) = true → (d[i].f1 = 0 → d[i].f0 = 0) → Ev (fun k => spec_l13Ok.l0 k d ((i + 1 : Nat) : Int)) r))
    (hb : bad = true ∨ ((decide (d[i].f1 > 0)) == (decide (((d[i].f2).length : Int) > 0))) = true ∨ (d[i].f1 = 0 ∧ d[i].f0 ≠ 0) → r = false) :
    Ev (fun k => spec_l13Ok.j1 k d i bad) r := by
  refine Ev.step' ?_
  have hi2 := hd.1
  simp only [spec_l13Ok.j1, rdD hi, w64_succ i (by omega)]
  refine Ev.ite (fun c => EvT (Ev.now _) (hb (.inl c)).symm) (fun c => Ev.posf (by omega) (Ev.posf (by omega) (Ev.ite (fun c1 => EvT (Ev.now _) (hb (.inr (.inl c1))).symm) (fun c1 => Ev.ite (fun c2 => Ev.ite (fun c3 => hg (by simpa using c) c1 (fun _ => c3)) (fun c3 => EvT (Ev.now _) (hb (.inr (.inr ⟨c2, c3⟩))).symm)) (fun c2 => hg (by simpa using c) c1 (fun h => absurd h c2))))))
theorem specOk0_ev (d : List Dl) (hd : SmD d) : ∀ (n i : Nat), i ≤ d.length → d.length - i = n → Ev (fun k => spec_l13Ok.l0 k d i) ((d.drop i).all pieceB && decide (d.length ≤ 10))
  | 0, i, hi, hn => by
    refine Ev.step' ?_
    simp only [spec_l13Ok.l0]
    rw [List.drop_eq_nil_of_le (by omega)]
    exact Ev.negf (by omega) (EvT (Ev.now _) (by simp; omega))
  | n + 1, i, hi, hn => by
    have h : i < d.length := by omega
    have hT := specText_ev _ (hd.2 _ (List.getElem_mem h))
    have ih := specOk0_ev d hd n (i + 1) (by omega) (by omega)
    rw [drop_all pieceB d i h]
    refine Ev.step' ?_
    simp only [spec_l13Ok.l0, rdD h, in_eq, Option.bind_some]
    refine Ev.posf (by omega) (Ev.posf (by omega) ?_)
    generalize (d.drop (i + 1)).all pieceB = q at ih
    have key : ∀ bad : Bool, (bad = (!(decide (0 ≤ d[i].f0) && decide (d[i].f0 ≤ 10) && (decide (0 ≤ d[i].f1) && decide (d[i].f1 ≤ 10 - d[i].f0)) && textB d[i].f2))) → Ev (fun k => spec_l13Ok.j1 k d i bad) (pieceB d[i] && q && decide (d.length ≤ 10)) := by
      intro bad hbad
      refine specOk1_ev d hd i h bad _ (fun c1 c2 c3 => ?_) (fun hb => ?_)
      · rw [show pieceB d[i] = true from pB_good hbad c1 c2 c3, Bool.true_and]
        exact ih
      · rw [show pieceB d[i] = false from pB_bad textB_nil hbad hb]; rfl
    by_cases h0 : 0 ≤ d[i].f0 ∧ d[i].f0 ≤ 10
    · have hw : wrap64 (10 - d[i].f0) = 10 - d[i].f0 := w64 (by omega) (by omega)
      simp only [hw]
      refine Ev.posf (by simpa using h0) (Ev.ite (fun c => Ev.bind hT (key _ ?_)) (fun c => key _ ?_))
      · simp at c; simp [h0, c]
      · rw [Bool.eq_false_iff.mpr c]; simp
    · exact Ev.negf (by simpa using h0) (key _ (by rw [show (decide (0 ≤ d[i].f0) && decide (d[i].f0 ≤ 10)) = false by rw [Bool.eq_false_iff]; simpa using h0]; simp))
theorem specOk_ev (d : List Dl) (hd : SmD d) : Ev (fun k => spec_l13Ok.f k d) (deltaB d) := by
  unfold spec_l13Ok.f
  exact EvT (specOk0_ev d hd _ 0 (by omega) rfl) (by simp [deltaB, Bool.and_comm])
end Go.Proofs.Ytfnhjaiioojbkaa.Q
end
section
namespace Go.Proofs.Ytfnhjaiioojbkaa.Q
open Go.RowKit Go.Proofs.YtfnhjaiioojbkaaW.PrintWords
set_option linter.unusedVariables false
set_option linter.unusedSimpArgs false
def doGo (base : Tx) : List Dl → Tx → Option Tx
  | [], acc => some acc
  | x :: d, acc => if x.f0 + x.f1 > base.length then none else doGo base d (acc ++ seg base x)
def fin : Option Tx → Tx × Bool
  | some x => if textB x = true then (x, true) else ([], false)
  | none => ([], false)
def doB (base : Tx) (d : List Dl) : Tx × Bool := if textB base = true ∧ deltaB d = true then fin (doGo base d []) else ([], false)
theorem textB_len {l : Tx} (h : textB l = true) : l.length ≤ 10 := by
  simp only [textB, Bool.and_eq_true, decide_eq_true_eq] at h
  exact h.1
theorem textB_size {l : Tx} (h : textB l = true) : ∀ s ∈ l, s.size ≤ 12 := by
  simp only [textB, Bool.and_eq_true, List.all_eq_true] at h
  intro s hs
  have := h.2 s hs
  simp only [lineB, Bool.and_eq_true, decide_eq_true_eq] at this
  exact this.2
theorem textB_Sm {l : Tx} (h : textB l = true) : Sm l := ⟨by have := textB_len h; omega, fun s hs => by have := textB_size h s hs; omega⟩
/-- What an ok piece is like. -/
theorem piece_ok {x : Dl} (h : pieceB x = true) : 0 ≤ x.f0 ∧ 0 ≤ x.f1 ∧ x.f0 + x.f1 ≤ 10 ∧ x.f2.length ≤ 10 ∧ ∀ s ∈ x.f2, s.size ≤ 12 := by
  simp only [pieceB, pB, Bool.or_eq_true, Bool.and_eq_true, decide_eq_true_eq] at h
  rcases h with ⟨⟨⟨⟨h1, h2⟩, h3⟩, h4⟩, h5⟩ | ⟨⟨⟨h1, h2⟩, h3⟩, h4⟩
  · rw [List.eq_nil_of_length_eq_zero h5]
    exact ⟨by omega, by omega, by omega, by simp, by simp⟩
  · exact ⟨by omega, by omega, by omega, textB_len h4, textB_size h4⟩
theorem seg_in {base : Tx} {x : Dl} (hb : textB base = true) (h : pieceB x = true) : (seg base x).length ≤ 20 ∧ ∀ s ∈ seg base x, s.size ≤ 12 := by
  have hb1 := textB_len hb
  obtain ⟨_, _, _, h4, h5⟩ := piece_ok h
  refine ⟨by simp [seg]; omega, fun s hs => ?_⟩
  rcases List.mem_append.mp hs with hs | hs
  · exact textB_size hb s (List.mem_of_mem_take (List.mem_of_mem_drop hs))
  · exact h5 s hs
theorem implDo_ev {base : Tx} (hb : textB base = true) (d : List Dl) (hd : ∀ x ∈ d, pieceB x = true) (hl : d.length ≤ 1000) : ∀ (n i : Nat) (acc : Tx), i ≤ d.length → d.length - i = n → acc.length ≤ 20 * i → (∀ s ∈ acc, s.size ≤ 12) →
    Ev (fun k => impl_DeltaDo.l0 k base acc d d.length i) (fin (doGo base (d.drop i) acc))
  | 0, i, acc, hi, hn, ha, hz => by
    rw [List.drop_eq_nil_of_le (by omega)]
    have hT := implText_ev acc ⟨by omega, fun s hs => by have := hz s hs; omega⟩
    refine Ev.step' ?_
    simp only [impl_DeltaDo.l0]
    refine Ev.negf (by omega) (Ev.bind hT (Ev.ite (fun c => EvT (Ev.now _) ?_) (fun c => EvT (Ev.now _) ?_)))
    · simp [doGo, fin, c]
    · simp [doGo, fin, c]
  | n + 1, i, acc, hi, hn, ha, hz => by
    have h : i < d.length := by omega
    obtain ⟨p1, p2, p3, p4, p5⟩ := piece_ok (hd _ (List.getElem_mem h))
    have hb1 := textB_len hb
    obtain ⟨s1, s2⟩ := seg_in hb (hd _ (List.getElem_mem h))
    rw [List.drop_eq_getElem_cons h, doGo]
    have ih := implDo_ev hb d hd hl n (i + 1) (acc ++ seg base d[i]) (by omega) (by omega) (by simp; omega) (fun s hs => by rcases List.mem_append.mp hs with hs | hs; exact hz s hs; exact s2 s hs)
    refine Ev.step' ?_
    simp only [impl_DeltaDo.l0, rdD h, w64 (x := d[i].f0 + d[i].f1) (by omega) (by omega), w64_succ i (by omega)]
    refine Ev.posf (by omega) (Ev.posf (by omega) (Ev.posf (by omega) ?_))
    by_cases c : d[i].f0 + d[i].f1 > base.length
    · rw [if_pos c]
      exact Ev.posf c (Ev.now _)
    · rw [if_neg c]
      refine Ev.negf c (Ev.posf p1 (Ev.posf (by omega) (Ev.posf (by omega) (Ev.posf (by simp; omega) (Ev.somef (Ev.posf (by simp; omega) ?_))))))
      rw [List.append_assoc]
      exact ih
theorem specDo_ev {base : Tx} (hb : textB base = true) (d : List Dl) (hd : ∀ x ∈ d, pieceB x = true) (hl : d.length ≤ 1000) : ∀ (n i : Nat) (acc : Tx), i ≤ d.length → d.length - i = n → acc.length ≤ 20 * i → (∀ s ∈ acc, s.size ≤ 12) →
    Ev (fun k => spec_l13Do.l0 k base d acc i) (fin (doGo base (d.drop i) acc))
  | 0, i, acc, hi, hn, ha, hz => by
    rw [List.drop_eq_nil_of_le (by omega)]
    have hT := specText_ev acc ⟨by omega, fun s hs => by have := hz s hs; omega⟩
    refine Ev.step' ?_
    simp only [spec_l13Do.l0]
    refine Ev.negf (by omega) (Ev.bind hT (Ev.ite (fun c => EvT (Ev.now _) ?_) (fun c => EvT (Ev.now _) ?_)))
    · simp [doGo, fin, c]
    · simp [doGo, fin, c]
  | n + 1, i, acc, hi, hn, ha, hz => by
    have h : i < d.length := by omega
    obtain ⟨p1, p2, p3, p4, p5⟩ := piece_ok (hd _ (List.getElem_mem h))
    have hb1 := textB_len hb
    obtain ⟨s1, s2⟩ := seg_in hb (hd _ (List.getElem_mem h))
    rw [List.drop_eq_getElem_cons h, doGo]
    have ih := specDo_ev hb d hd hl n (i + 1) (acc ++ seg base d[i]) (by omega) (by omega) (by simp; omega) (fun s hs => by rcases List.mem_append.mp hs with hs | hs; exact hz s hs; exact s2 s hs)
    refine Ev.step' ?_
    simp only [spec_l13Do.l0, rdD h, w64 (x := d[i].f0 + d[i].f1) (by omega) (by omega), w64_succ i (by omega)]
    refine Ev.posf (by omega) (Ev.posf (by omega) ?_)
    by_cases c : d[i].f0 + d[i].f1 > base.length
    · rw [if_pos c]
      exact Ev.posf c (Ev.now _)
    · rw [if_neg c]
      refine Ev.negf c (Ev.posf p1 (Ev.posf (by omega) (Ev.posf (by omega) (Ev.posf (by simp; omega) (Ev.somef (Ev.posf (by simp; omega) ?_))))))
      rw [List.append_assoc]
      exact ih
theorem deltaB_len {d : List Dl} (h : deltaB d = true) : d.length ≤ 10 ∧ ∀ x ∈ d, pieceB x = true := by
  simp only [deltaB, Bool.and_eq_true, decide_eq_true_eq, List.all_eq_true] at h
  exact h
theorem implDeltaDo_ev (base : Tx) (d : List Dl) (hb : Sm base) (hd : SmD d) : Ev (fun k => impl_DeltaDo.f k base d) (doB base d) := by
  unfold impl_DeltaDo.f
  have bad : ∀ q : Bool, q = true → Ev (fun k => impl_DeltaDo.j0 k base d q) (([] : Tx), false) := fun q hq => by
    subst hq
    refine Ev.step' ?_
    simp only [impl_DeltaDo.j0]
    exact Ev.posf trivial (Ev.now _)
  refine Ev.bind (implText_ev base hb) (Ev.ite (fun c => Ev.bind (implOk_ev d hd) ?_) (fun c => EvT (bad _ rfl) (by rw [doB, if_neg (fun h => c h.1)])))
  cases hk : deltaB d with
  | false => exact EvT (bad _ rfl) (by rw [doB, if_neg (fun h => by rw [hk] at h; cases h.2)])
  | true =>
    refine Ev.step' ?_
    simp only [impl_DeltaDo.j0]
    obtain ⟨h1, h2⟩ := deltaB_len hk
    refine Ev.negf (by simp) (EvT (implDo_ev c d h2 (by omega) _ 0 [] (by omega) rfl (by simp) (by simp)) ?_)
    rw [doB, if_pos ⟨c, hk⟩, List.drop_zero]
/-- A text's delta is ok, and not long. -/
theorem dOf_ok {a b : Tx} (ha : textB a = true) (hb : textB b = true) : deltaB (dOf a b) = true := by
  obtain ⟨h1, h2⟩ := dOf_right a b
  have hla := textB_len ha
  have hlb := textB_len hb
  have hlen := ap_len h2
  rw [h1] at hlen
  simp only [deltaB, Bool.and_eq_true, decide_eq_true_eq, List.all_eq_true]
  refine ⟨by omega, fun x hx => ?_⟩
  have hx2 : ∀ s ∈ x.f2, lineB s = true := fun s hs => by
    have : s ∈ b := by rw [← h1]; exact mem_ap hx hs
    simp only [textB, Bool.and_eq_true, List.all_eq_true] at hb
    exact hb.2 s this
  have hx3 : x.f2.length ≤ b.length := by
    have : (seg a x).length ≤ (ap a (dOf a b)).length := by
      obtain ⟨p, q, e⟩ := List.append_of_mem hx
      rw [e]
      simp [ap]
      omega
    rw [h1] at this
    have := (piece_len (h2 x hx)).2.1
    omega
  rcases h2 x hx with ⟨g1, g2, g3, g4⟩ | ⟨g1, g2, g3⟩
  · simp [pieceB, pB, g4]
    exact ⟨⟨⟨g1, g2⟩, by omega⟩, by omega⟩
  · have : textB x.f2 = true := by
      simp only [textB, Bool.and_eq_true, decide_eq_true_eq, List.all_eq_true]
      exact ⟨by omega, hx2⟩
    simp [pieceB, pB, g1, g2, this]
    omega
end Go.Proofs.Ytfnhjaiioojbkaa.Q
end
section
namespace Go.Proofs.Ytfnhjaiioojbkaa.Q
open Go.RowKit Go.Proofs.YtfnhjaiioojbkaaW.PrintWords
set_option linter.unusedVariables false
set_option linter.unusedSimpArgs false
theorem bytes_of {l : List Int} (h : ∀ x ∈ l, (Lit.int .u8 x).wf = true) : ∀ x ∈ l, 0 ≤ x ∧ x ≤ 255 := fun x hx => by
  have := h x hx
  simp [Lit.wf, IntKind.bits, IntKind.signed, IntKind.min, IntKind.max] at this
  omega
theorem Sm_of {l : List ByteArray} (h : l.length ≤ 100) (hz : Sz l) : Sm l := ⟨by omega, fun s hs => by have := hz s hs; omega⟩
end Go.Proofs.Ytfnhjaiioojbkaa.Q
end
section
namespace Go.Proofs.Ytfnhjaiioojbkaa.Q
open Go.RowKit Go.Proofs.YtfnhjaiioojbkaaW.PrintWords
set_option linter.unusedVariables false
set_option linter.unusedSimpArgs false
abbrev Pk := S53
def sz (d : List Dl) : Nat := d.length + (d.map (fun x => x.f2.length)).sum
def txAt (l : List Tx) (j : Nat) : Tx := l.getD j []
def pkAt (P : List Pk) (j : Nat) : Pk := P.getD j z53
def dpAt (D : List Int) (j : Nat) : Int := D.getD j 0
/-- The best base among the first texts. -/
def bst (l : List Tx) (D : List Int) (t : Tx) : Nat → Int × List Dl
  | 0 => (-1, dOf [] t)
  | j + 1 => if dpAt D j < 3 ∧ sz (dOf (txAt l j) t) < sz (bst l D t j).2 then ((j : Int), dOf (txAt l j) t) else bst l D t j
def dep (D : List Int) (b : Int) : Int := if 0 ≤ b then dpAt D b.toNat + 1 else 1
def pkn (l : List Tx) (q : List Pk × List Int) (b : Int × List Dl) : List Pk × List Int := (q.1 ++ [⟨b.1, b.2⟩], q.2 ++ [dep q.2 b.1])
def pk (l : List Tx) : Nat → List Pk × List Int
  | 0 => ([], [])
  | n + 1 => pkn l (pk l n) (bst l (pk l n).2 (txAt l n) n)
theorem rd_tx (l : List Tx) (j : Nat) : rd_L2 l (j : Int) = txAt l j := by simp [rd_L2, txAt]
theorem rd_pk (P : List Pk) (j : Nat) : rd_T53 P (j : Int) = pkAt P j := by simp [rd_T53, pkAt]
theorem rd_dp (D : List Int) (j : Nat) : rd D (j : Int) = dpAt D j := by show D.getD (j : Int).toNat 0 = _; simp [dpAt]
theorem dpAt_old {D : List Int} {j : Nat} (x : Int) (h : j < D.length) : dpAt (D ++ [x]) j = dpAt D j := by
  simp [dpAt, List.getD_eq_getElem?_getD, List.getElem?_append, h]
theorem dpAt_new (D : List Int) (x : Int) : dpAt (D ++ [x]) D.length = x := by
  simp [dpAt, List.getD_eq_getElem?_getD, List.getElem?_append]
theorem pkAt_old {P : List Pk} {j : Nat} (x : Pk) (h : j < P.length) : pkAt (P ++ [x]) j = pkAt P j := by
  simp [pkAt, List.getD_eq_getElem?_getD, List.getElem?_append, h]
theorem pkAt_new (P : List Pk) (x : Pk) : pkAt (P ++ [x]) P.length = x := by
  simp [pkAt, List.getD_eq_getElem?_getD, List.getElem?_append]
/-- A pack's one, beside the texts. -/
def OkAt (l : List Tx) (D : List Int) (j : Nat) (p : Pk) : Prop :=
  (sz p.f1 ≤ sz (dOf [] (txAt l j)) ∧ 1 ≤ dpAt D j ∧ dpAt D j ≤ 3) ∧
  ((p.f0 = -1 ∧ p.f1 = dOf [] (txAt l j) ∧ dpAt D j = 1) ∨ ∃ b : Nat, b < j ∧ p.f0 = (b : Int) ∧ p.f1 = dOf (txAt l b) (txAt l j) ∧ dpAt D j = dpAt D b + 1)
def Gd (l : List Tx) (P : List Pk) (D : List Int) (n : Nat) : Prop := P.length = n ∧ D.length = n ∧ ∀ j, j < n → OkAt l D j (pkAt P j)
theorem bst_ok (l : List Tx) (D : List Int) (t : Tx) : ∀ m, sz (bst l D t m).2 ≤ sz (dOf [] t) ∧ ((bst l D t m).1 = -1 ∧ (bst l D t m).2 = dOf [] t ∨ ∃ b : Nat, b < m ∧ (bst l D t m).1 = (b : Int) ∧ (bst l D t m).2 = dOf (txAt l b) t ∧ dpAt D b < 3)
  | 0 => ⟨Nat.le_refl _, .inl ⟨rfl, rfl⟩⟩
  | m + 1 => by
    obtain ⟨h1, h2⟩ := bst_ok l D t m
    by_cases c : dpAt D m < 3 ∧ sz (dOf (txAt l m) t) < sz (bst l D t m).2
    · rw [bst, if_pos c]
      exact ⟨by show sz (dOf (txAt l m) t) ≤ _; omega, .inr ⟨m, by omega, rfl, rfl, c.1⟩⟩
    · rw [bst, if_neg c]
      refine ⟨h1, ?_⟩
      rcases h2 with h2 | ⟨b, h3, h4⟩
      · exact .inl h2
      · exact .inr ⟨b, by omega, h4⟩
theorem pk_ok (l : List Tx) : ∀ n, Gd l (pk l n).1 (pk l n).2 n
  | 0 => ⟨rfl, rfl, fun j h => by omega⟩
  | n + 1 => by
    obtain ⟨h1, h2, h3⟩ := pk_ok l n
    obtain ⟨b1, b2⟩ := bst_ok l (pk l n).2 (txAt l n) n
    rw [pk, pkn]
    generalize bst l (pk l n).2 (txAt l n) n = B at b1 b2
    generalize (pk l n).1 = P at h1 h3
    generalize (pk l n).2 = D at h2 h3 b2
    subst h1
    refine ⟨by simp, by simp [h2], fun j hj => ?_⟩
    by_cases hjn : j = P.length
    · subst hjn
      have e : dpAt (D ++ [dep D B.1]) P.length = dep D B.1 := by rw [← h2]; exact dpAt_new _ _
      rw [pkAt_new]
      unfold OkAt
      rw [e]
      rcases b2 with ⟨c1, c2⟩ | ⟨b, c0, c1, c2, c3⟩
      · have ed : dep D B.1 = 1 := by rw [c1]; rfl
        rw [ed]
        exact ⟨⟨b1, by omega, by omega⟩, .inl ⟨c1, c2, rfl⟩⟩
      · have hb := (h3 b c0).1.2
        have ed : dep D B.1 = dpAt D b + 1 := by rw [c1]; simp [dep]
        rw [ed]
        exact ⟨⟨b1, by omega, by omega⟩, .inr ⟨b, c0, c1, c2, by rw [dpAt_old _ (by omega)]⟩⟩
    · have hj' : j < P.length := by omega
      obtain ⟨g1, g2⟩ := h3 j hj'
      rw [pkAt_old _ hj']
      unfold OkAt
      rw [dpAt_old _ (by omega)]
      refine ⟨g1, ?_⟩
      rcases g2 with g2 | ⟨b, c0, c1, c2, c3⟩
      · exact .inl g2
      · exact .inr ⟨b, c0, c1, c2, by rw [dpAt_old _ (by omega)]; exact c3⟩
theorem specSize0_ev (d : List Dl) (hd : ∀ x ∈ d, x.f2.length ≤ 10) (hl : d.length ≤ 1000) : ∀ (n i : Nat) (acc : Nat), i ≤ d.length → d.length - i = n → acc ≤ 1000 + 10 * i →
    Ev (fun k => spec_l13Size.l0 k d (acc : Int) i) ((acc + ((d.drop i).map (fun x => x.f2.length)).sum : Nat) : Int)
  | 0, i, acc, hi, hn, ha => by
    rw [List.drop_eq_nil_of_le (by omega)]
    refine Ev.step' ?_
    simp only [spec_l13Size.l0]
    exact Ev.negf (by omega) (EvT (Ev.now _) (by simp))
  | n + 1, i, acc, hi, hn, ha => by
    have h : i < d.length := by omega
    have hh := hd _ (List.getElem_mem h)
    rw [List.drop_eq_getElem_cons h]
    have ih := specSize0_ev d hd hl n (i + 1) (acc + d[i].f2.length) (by omega) (by omega) (by omega)
    refine Ev.step' ?_
    simp only [spec_l13Size.l0, rdD h, w64_add acc _ (show acc + d[i].f2.length ≤ 1000000000000 by omega), w64_succ i (by omega)]
    refine Ev.posf (by omega) (Ev.posf (by omega) (EvT ih ?_))
    simp only [List.map_cons, List.sum_cons]
    omega
theorem specSize_ev {d : List Dl} (h : deltaB d = true) : Ev (fun k => spec_l13Size.f k d) (sz d : Int) := by
  obtain ⟨h1, h2⟩ := deltaB_len h
  unfold spec_l13Size.f
  exact specSize0_ev d (fun x hx => (piece_ok (h2 x hx)).2.2.2.1) (by omega) _ 0 d.length (by omega) rfl (by omega)
theorem deep_ev {l : List Tx} {P : List Pk} {D : List Int} {n : Nat} (g : Gd l P D n) : ∀ (N j : Nat) (c : Int), j ≤ N → j < n → 1 ≤ c → c ≤ 1000 - dpAt D j →
    Ev (fun k => spec_l13Deep.l0 k P (j : Int) c) (c + dpAt D j - 1)
  | N, j, c, hN, hj, h1, h2 => by
    obtain ⟨⟨_, d1, d2⟩, g2⟩ := g.2.2 j hj
    refine Ev.step' ?_
    simp only [spec_l13Deep.l0, rd_pk]
    refine Ev.posf (by omega) (Ev.posf (by have := g.1; omega) ?_)
    rcases g2 with ⟨e0, e1, e2⟩ | ⟨b, c0, c1, c2, c3⟩
    · exact Ev.negf (by omega) (EvT (Ev.now _) (by omega))
    · rw [c1, w64 (by omega) (by omega)]
      refine Ev.posf (by omega) ?_
      match N, hN with
      | 0, hN => omega
      | N + 1, hN => exact EvT (deep_ev g N b (c + 1) (by omega) (by omega) (by omega) (by omega)) (by omega)
theorem specDeep_ev {l : List Tx} {P : List Pk} {D : List Int} {n : Nat} (g : Gd l P D n) {j : Nat} (hj : j < n) : Ev (fun k => spec_l13Deep.f k P (j : Int)) (dpAt D j) := by
  have hd := (g.2.2 j hj).1.2
  exact EvT (deep_ev g j j 1 (by omega) hj (by omega) (by omega)) (by omega)
theorem bst_delta {l : List Tx} (D : List Int) {t : Tx} (ht : textB t = true) (m : Nat) (hl : ∀ j, j < m → textB (txAt l j) = true) : deltaB (bst l D t m).2 = true := by
  obtain ⟨_, h | ⟨b, h1, h2, h3, h4⟩⟩ := bst_ok l D t m
  · rw [h.2]; exact dOf_ok rfl ht
  · rw [h3]; exact dOf_ok (hl b h1) ht
theorem specBst_ev {l : List Tx} {P : List Pk} {D : List Int} {i : Nat} (g : Gd l P D i) (hi : i < l.length) (hl : l.length ≤ 12) (ok : ∀ j, j ≤ i → textB (txAt l j) = true) (r : List Pk)
    (hr : Ev (fun k => spec_PackOf.l0 k l (pkn l (P, D) (bst l D (txAt l i) i)).1 ((i + 1 : Nat) : Int)) r) :
    ∀ (d j : Nat), i - j = d → j ≤ i → Ev (fun k => spec_PackOf.l1 k l P i j (bst l D (txAt l i) j).1 (bst l D (txAt l i) j).2) r
  | 0, j, hd, hj => by
    obtain rfl : j = i := by omega
    have h1 := g.1
    refine Ev.step' ?_
    simp only [spec_PackOf.l1, w64_succ j (by omega)]
    exact Ev.negf (by omega) (Ev.posf (by omega) hr)
  | d + 1, j, hd, hj => by
    have hj' : j < i := by omega
    have h1 := g.1
    have ih := specBst_ev g hi hl ok r hr d (j + 1) (by omega) (by omega)
    have t1 := textB_len (ok j (by omega))
    have t2 := textB_len (ok i (by omega))
    have s1 := specSize_ev (dOf_ok (ok j (by omega)) (ok i (by omega)))
    have s2 := specSize_ev (bst_delta (l := l) D (ok i (by omega)) j (fun j hj => ok j (by omega)))
    refine Ev.step' ?_
    simp only [spec_PackOf.l1, rd_tx, w64_succ j (by omega)]
    refine Ev.posf (by omega) (Ev.posf (by omega) (Ev.posf (by omega) (Ev.posf (by omega) (Ev.posf (by omega) (Ev.bind (specOf_ev (by omega) (by omega)) (Ev.bind (specDeep_ev g hj') (Ev.ite (fun c => Ev.bind s1 (Ev.bind s2 (Ev.ite (fun c2 => ?_) (fun c2 => ?_)))) (fun c => ?_))))))))
    · rw [bst, if_pos (by omega)] at ih
      exact ih
    · rw [bst, if_neg (by omega)] at ih
      exact ih
    · rw [bst, if_neg (by omega)] at ih
      exact ih
/-- What both makers answer. -/
def packB (l : List Tx) : List Pk := if l.length ≤ 12 ∧ l.all textB = true then (pk l l.length).1 else []
theorem all_at {l : List Tx} (h : l.all textB = true) : ∀ j, j < l.length → textB (txAt l j) = true := fun j hj => by
  rw [List.all_eq_true] at h
  have := h _ (List.getElem_mem hj)
  simpa [txAt, List.getD_eq_getElem?_getD, hj] using this
theorem specPack0_ev {l : List Tx} (hl : l.length ≤ 12) (hs : ∀ x ∈ l, Sm x) : ∀ (d i : Nat), l.length - i = d → i ≤ l.length → (∀ j, j < i → textB (txAt l j) = true) →
    Ev (fun k => spec_PackOf.l0 k l (pk l i).1 i) (if (l.drop i).all textB = true then (pk l l.length).1 else [])
  | 0, i, hd, hi, ok => by
    obtain rfl : i = l.length := by omega
    refine Ev.step' ?_
    simp only [spec_PackOf.l0]
    exact Ev.negf (by omega) (EvT (Ev.now _) (by simp))
  | d + 1, i, hd, hi, ok => by
    have hi' : i < l.length := by omega
    have e : txAt l i = l[i] := by simp [txAt, List.getD_eq_getElem?_getD, hi']
    have hT := specText_ev (txAt l i) (by rw [e]; exact hs _ (List.getElem_mem hi'))
    rw [List.drop_eq_getElem_cons hi', List.all_cons, ← e]
    refine Ev.step' ?_
    simp only [spec_PackOf.l0, rd_tx]
    refine Ev.posf (by omega) (Ev.posf (by omega) (Ev.bind hT (Ev.ite (fun c => ?_) (fun c => EvT (Ev.now _) ?_))))
    · have ok' : ∀ j, j ≤ i → textB (txAt l j) = true := fun j hj => by
        by_cases hji : j = i
        · rw [hji]; exact c
        · exact ok j (by omega)
      have ih := specPack0_ev hl hs d (i + 1) (by omega) (by omega) (fun j hj => ok' j (by omega))
      have t2 := textB_len c
      rw [c, Bool.true_and]
      exact Ev.bind (specOf_ev (by simp) (by omega)) (specBst_ev (pk_ok l i) hi' hl ok' _ ih i 0 (by omega) (by omega))
    · rw [if_neg (by simp [c])]
theorem specPack_ev (l : List Tx) (hs : ∀ x ∈ l, Sm x) : Ev (fun k => spec_PackOf.f k l) (packB l) := by
  unfold spec_PackOf.f packB
  refine Ev.ite (fun c => EvT (Ev.now _) (by rw [if_neg (by omega)])) (fun c => ?_)
  have h := specPack0_ev (l := l) (by omega) hs _ 0 rfl (by omega) (fun j hj => by omega)
  rw [List.drop_zero] at h
  refine EvT h ?_
  by_cases c2 : l.all textB = true
  · rw [if_pos c2, if_pos ⟨by omega, c2⟩]
  · rw [if_neg c2, if_neg (fun h => c2 h.2)]
end Go.Proofs.Ytfnhjaiioojbkaa.Q
end
section
namespace Go.Proofs.Ytfnhjaiioojbkaa.Q
open Go.RowKit Go.Proofs.YtfnhjaiioojbkaaW.PrintWords
set_option linter.unusedVariables false
set_option linter.unusedSimpArgs false
/-- A text that was made is ok, out of an ok base and ok pieces. -/
theorem doB_true {t : Tx} {d : List Dl} (h : (doB t d).2 = true) : textB t = true ∧ deltaB d = true ∧ doGo t d [] = some (doB t d).1 ∧ textB (doB t d).1 = true := by
  unfold doB at h ⊢
  by_cases c : textB t = true ∧ deltaB d = true
  · rw [if_pos c] at h ⊢
    cases e : doGo t d [] with
    | none => rw [e] at h; cases h
    | some x =>
      rw [e] at h
      simp only [fin] at h ⊢
      by_cases hx : textB x = true
      · rw [if_pos hx]; exact ⟨c.1, c.2, rfl, hx⟩
      · rw [if_neg hx] at h; cases h
  · rw [if_neg c] at h; cases h
end Go.Proofs.Ytfnhjaiioojbkaa.Q
end
section
namespace Go.Proofs.Ytfnhjaiioojbkaa.Q
open Go.RowKit Go.Proofs.YtfnhjaiioojbkaaW.PrintWords
set_option linter.unusedVariables false
set_option linter.unusedSimpArgs false
def PkS (P : List Pk) : Prop := P.length ≤ 1000000 ∧ ∀ p ∈ P, SmD p.f1
theorem PkS.get {P : List Pk} (h : PkS P) {j : Nat} (hj : j < P.length) : SmD (pkAt P j).f1 := by
  have e : pkAt P j = P[j] := by simp [pkAt, List.getD_eq_getElem?_getD, hj]
  rw [e]
  exact h.2 _ (List.getElem_mem hj)
theorem txAt_old {l : List Tx} {j : Nat} (x : Tx) (h : j < l.length) : txAt (l ++ [x]) j = txAt l j := by
  simp [txAt, List.getD_eq_getElem?_getD, List.getElem?_append_left h]
theorem txAt_new (l : List Tx) (x : Tx) : txAt (l ++ [x]) l.length = x := by simp [txAt]
abbrev Un := List Tx × List Int
def bs (q : Un) (p : Pk) : Tx := if 0 ≤ p.f0 then txAt q.1 p.f0.toNat else []
def stepU (P : List Pk) (i : Nat) (q : Un) : Option Un :=
  if i < 12 ∧ -1 ≤ (pkAt P i).f0 ∧ (pkAt P i).f0 < (i : Int) ∧ (doB (bs q (pkAt P i)) (pkAt P i).f1).2 = true ∧ dep q.2 (pkAt P i).f0 ≤ 3 then some (q.1 ++ [(doB (bs q (pkAt P i)) (pkAt P i).f1).1], q.2 ++ [dep q.2 (pkAt P i).f0]) else none
def unG (P : List Pk) : Nat → Option Un
  | 0 => some ([], [])
  | i + 1 => (unG P i).bind (stepU P i)
theorem unG_none {P : List Pk} {i : Nat} (h : unG P i = none) : ∀ d, unG P (i + d) = none
  | 0 => h
  | d + 1 => by rw [← Nat.add_assoc, unG, unG_none h d]; rfl
def resU : Option Un → List Tx × List Int × Bool
  | some q => (q.1, q.2, true)
  | none => ([], [], false)
/-- What is known of a pack's first i texts. -/
def GU (P : List Pk) (q : Un) (i : Nat) : Prop := i ≤ 12 ∧ q.1.length = i ∧ q.2.length = i ∧ ∀ j, j < i → textB (txAt q.1 j) = true ∧ 1 ≤ dpAt q.2 j ∧ dpAt q.2 j ≤ 3 ∧ -1 ≤ (pkAt P j).f0 ∧ (pkAt P j).f0 < (j : Int) ∧
  doB (bs q (pkAt P j)) (pkAt P j).f1 = (txAt q.1 j, true) ∧ dpAt q.2 j = dep q.2 (pkAt P j).f0
theorem bs_app {q : Un} {p : Pk} (t : Tx) (n : Int) (h : p.f0 < (q.1.length : Int)) : bs (q.1 ++ [t], q.2 ++ [n]) p = bs q p := by
  unfold bs
  split
  · exact txAt_old _ (by omega)
  · rfl
theorem dep_app {D : List Int} {b : Int} (n : Int) (h : b < (D.length : Int)) : dep (D ++ [n]) b = dep D b := by
  unfold dep
  split
  · rw [dpAt_old _ (by omega)]
  · rfl
theorem dep_pos {D : List Int} {b : Int} (h : ∀ j, j < D.length → 1 ≤ dpAt D j) (hb : b < (D.length : Int)) : 1 ≤ dep D b := by
  unfold dep
  split
  · have := h b.toNat (by omega); omega
  · omega
theorem unG_good {P : List Pk} : ∀ (i : Nat) (q : Un), unG P i = some q → GU P q i
  | 0, q, h => by
    obtain rfl := Option.some.inj h
    exact ⟨by omega, rfl, rfl, fun j hj => absurd hj (by omega)⟩
  | i + 1, q, h => by
    obtain ⟨q0, h0, h1⟩ := Option.bind_eq_some_iff.mp h
    obtain ⟨_, l1, l2, g⟩ := unG_good i q0 h0
    unfold stepU at h1
    split at h1
    case isFalse => cases h1
    case isTrue c =>
      obtain ⟨c1, c2, c3, c4, c5⟩ := c
      obtain rfl := Option.some.inj h1
      have hd := dep_pos (D := q0.2) (b := (pkAt P i).f0) (fun j hj => (g j (by omega)).2.1) (by omega)
      refine ⟨by omega, by simp [l1], by simp [l2], fun j hj => ?_⟩
      by_cases e : j = i
      · subst e
        have e1 : txAt (q0.1 ++ [(doB (bs q0 (pkAt P j)) (pkAt P j).f1).1]) j = (doB (bs q0 (pkAt P j)) (pkAt P j).f1).1 := by
          have := txAt_new q0.1 (doB (bs q0 (pkAt P j)) (pkAt P j).f1).1
          rw [l1] at this; exact this
        have e2 : dpAt (q0.2 ++ [dep q0.2 (pkAt P j).f0]) j = dep q0.2 (pkAt P j).f0 := by
          have := dpAt_new q0.2 (dep q0.2 (pkAt P j).f0)
          rw [l2] at this; exact this
        simp only [e1, e2]
        rw [bs_app _ _ (by omega), dep_app _ (by omega)]
        exact ⟨(doB_true c4).2.2.2, hd, c5, c2, c3, Prod.ext rfl c4, rfl⟩
      · have hj' : j < i := by omega
        obtain ⟨g1, g2, g3, g4, g5, g6, g7⟩ := g j hj'
        simp only [txAt_old _ (show j < q0.1.length by omega), dpAt_old _ (show j < q0.2.length by omega)]
        rw [bs_app _ _ (by omega), dep_app _ (by omega)]
        exact ⟨g1, g2, g3, g4, g5, g6, g7⟩
theorem unpackAny0_ev {P : List Pk} (hs : PkS P) : ∀ (d i : Nat) (q : Un), P.length - i = d → i ≤ P.length → unG P i = some q →
    Ev (fun k => impl_unpacked.l0 k q.1 q.2 P (P.length : Int) i) (resU (unG P P.length))
  | 0, i, q, hd, hi, hq => by
    obtain rfl : i = P.length := by omega
    refine Ev.step' ?_
    simp only [impl_unpacked.l0]
    exact Ev.negf (by omega) (EvT (Ev.now _) (by rw [hq]; rfl))
  | d + 1, i, q, hd, hi, hq => by
    have hi' : i < P.length := by omega
    obtain ⟨i12, l1, l2, g⟩ := unG_good i q hq
    have hS := hs.get hi'
    have hP := hs.1
    have bad : ∀ b : Bool, b = true → unG P (i + 1) = none → Ev (fun k => impl_unpacked.j1 k q.1 q.2 P (P.length : Int) i b (pkAt P i).f0 (pkAt P i).f1) (resU (unG P P.length)) := fun b hb hn => by
      subst hb
      have := unG_none hn (P.length - (i + 1))
      rw [show i + 1 + (P.length - (i + 1)) = P.length by omega] at this
      rw [this]
      refine Ev.step' ?_
      simp only [impl_unpacked.j1]
      exact Ev.posf trivial (Ev.now _)
    have e1 : unG P (i + 1) = stepU P i q := by rw [unG, hq]; rfl
    refine Ev.step' ?_
    simp only [impl_unpacked.l0, rd_pk]
    refine Ev.posf (by omega) (Ev.posf (by omega) (Ev.posf (by omega) (Ev.ite (fun c => bad _ rfl ?_) (fun c => ?_))))
    · rw [e1, stepU, if_neg (by omega)]
    · simp only [within_eq, w64 (x := (i : Int) - 1) (by omega) (by omega)]
      refine Ev.somef ?_
      by_cases hw : -1 ≤ (pkAt P i).f0 ∧ (pkAt P i).f0 ≤ (i : Int) - 1
      · have hd0 := dep_pos (D := q.2) (b := (pkAt P i).f0) (fun j hj => (g j (by omega)).2.1) (by omega)
        have hb : (!(decide (-1 ≤ (pkAt P i).f0) && decide ((pkAt P i).f0 ≤ (i : Int) - 1))) = false := by simp [hw.1, hw.2]
        have hbad : (doB (bs q (pkAt P i)) (pkAt P i).f1).2 ≠ true → resU (unG P P.length) = ([], [], false) := fun hn => by
          have hn2 : unG P (i + 1) = none := by rw [e1, stepU, if_neg (fun h => hn h.2.2.2.1)]
          have := unG_none hn2 (P.length - (i + 1))
          rw [show i + 1 + (P.length - (i + 1)) = P.length by omega] at this
          rw [this]; rfl
        have hdeep : ¬ dep q.2 (pkAt P i).f0 ≤ 3 → resU (unG P P.length) = ([], [], false) := fun hn => by
          have hn2 : unG P (i + 1) = none := by rw [e1, stepU, if_neg (fun h => hn h.2.2.2.2)]
          have := unG_none hn2 (P.length - (i + 1))
          rw [show i + 1 + (P.length - (i + 1)) = P.length by omega] at this
          rw [this]; rfl
        have hgood : (doB (bs q (pkAt P i)) (pkAt P i).f1).2 = true → dep q.2 (pkAt P i).f0 ≤ 3 → Ev (fun k => impl_unpacked.l0 k (q.1 ++ [(doB (bs q (pkAt P i)) (pkAt P i).f1).1]) (q.2 ++ [dep q.2 (pkAt P i).f0]) P (P.length : Int) (wrap64 ((i : Int) + 1))) (resU (unG P P.length)) := fun h1 h2 => by
          rw [w64_succ i (by omega)]
          exact unpackAny0_ev hs d (i + 1) (q.1 ++ [(doB (bs q (pkAt P i)) (pkAt P i).f1).1], q.2 ++ [dep q.2 (pkAt P i).f0]) (by omega) (by omega) (by rw [e1, stepU, if_pos ⟨by omega, hw.1, by omega, h1, h2⟩])
        simp only [hb]
        refine Ev.step' ?_
        simp only [impl_unpacked.j1]
        refine Ev.negf (by decide) (Ev.ite (fun c0 => ?_) (fun c0 => ?_))
        · obtain ⟨b, hbq⟩ := toNat_of c0
          have hbi : b < i := by omega
          have eb : bs q (pkAt P i) = txAt q.1 b := by rw [bs, if_pos (by omega), hbq]; rfl
          have ed : dep q.2 (pkAt P i).f0 = dpAt q.2 b + 1 := by rw [dep, if_pos (by omega), hbq]; rfl
          obtain ⟨g1, g2, g3, _⟩ := g b hbi
          rw [eb, ed] at hgood
          rw [eb] at hbad
          rw [ed] at hdeep
          have hdo := implDeltaDo_ev (txAt q.1 b) (pkAt P i).f1 (textB_Sm g1) hS
          simp only [hbq, rd_tx, rd_dp, w64 (x := dpAt q.2 b + 1) (by omega) (by omega)]
          refine Ev.posf (by omega) (Ev.posf (by omega) (Ev.posf (by omega) (Ev.bind hdo (Ev.ite (fun cd => Ev.ite (fun cq => EvT (Ev.now _) (hdeep (by omega)).symm) (fun cq => Ev.posf (by omega) (Ev.posf (by omega) (hgood cd (by omega))))) (fun cd => EvT (Ev.now _) (hbad cd).symm)))))
        · have eb : bs q (pkAt P i) = [] := by rw [bs, if_neg (by omega)]
          have ed : dep q.2 (pkAt P i).f0 = 1 := by rw [dep, if_neg (by omega)]
          rw [eb, ed] at hgood
          rw [eb] at hbad
          have hdo := implDeltaDo_ev [] (pkAt P i).f1 ⟨by simp, by simp⟩ hS
          refine Ev.bind hdo (Ev.ite (fun cd => Ev.negf (by decide) (Ev.posf (by omega) (Ev.posf (by omega) (hgood cd (by omega))))) (fun cd => EvT (Ev.now _) (hbad cd).symm))
      · refine bad _ ?_ ?_
        · simp only [Bool.not_eq_true', Bool.and_eq_false_iff, decide_eq_false_iff_not]; omega
        · rw [e1, stepU, if_neg (by omega)]
theorem unpackAny_ev {P : List Pk} (hs : PkS P) : Ev (fun k => impl_unpacked.f k P) (resU (unG P P.length)) := by
  unfold impl_unpacked.f
  exact unpackAny0_ev hs _ 0 ([], []) rfl (by omega) rfl
theorem l13Do_ev {base : Tx} (hb : textB base = true) {d : List Dl} (hk : deltaB d = true) : Ev (fun k => spec_l13Do.f k base d) (doB base d) := by
  unfold spec_l13Do.f
  obtain ⟨h1, h2⟩ := deltaB_len hk
  exact EvT (specDo_ev hb d h2 (by omega) _ 0 [] (by omega) rfl (by simp) (by simp)) (by rw [doB, if_pos ⟨hb, hk⟩, List.drop_zero])
def okA (P : List Pk) : Prop := ∀ j, j < P.length → -1 ≤ (pkAt P j).f0 ∧ (pkAt P j).f0 < (j : Int) ∧ deltaB (pkAt P j).f1 = true
theorem getAny_ev {P : List Pk} (hP : P.length ≤ 1000000) (ha : okA P) : ∀ (n j : Nat), j < n → j < P.length → ∃ (t : Tx) (ok : Bool) (m : Int), Ev (fun k => spec_l13Get.f k P (j : Int)) (t, ok) ∧ (ok = true → textB t = true) ∧ 1 ≤ m ∧ m ≤ (j : Int) + 1 ∧
    ∀ c : Int, 1 ≤ c → c + m ≤ 10000000 → Ev (fun k => spec_l13Deep.l0 k P (j : Int) c) (c + m - 1)
  | 0, j, h, hj => absurd h (by omega)
  | n + 1, j, h, hj => by
    obtain ⟨a1, a2, a3⟩ := ha j hj
    by_cases c0 : (pkAt P j).f0 ≥ 0
    · obtain ⟨b, hb⟩ := toNat_of c0
      obtain ⟨t, ok, m, h1, h2, h3, h4, h5⟩ := getAny_ev hP ha n b (by omega) (by omega)
      have hd : ∀ c : Int, 1 ≤ c → c + (m + 1) ≤ 10000000 → Ev (fun k => spec_l13Deep.l0 k P (j : Int) c) (c + (m + 1) - 1) := fun c hc1 hc2 => by
        refine Ev.step' ?_
        simp only [spec_l13Deep.l0, rd_pk, hb, w64 (x := c + 1) (by omega) (by omega)]
        exact Ev.posf (by omega) (Ev.posf (by omega) (Ev.posf (by omega) (EvT (h5 (c + 1) (by omega) (by omega)) (by omega))))
      cases ok with
      | false =>
        refine ⟨[], false, m + 1, Ev.step' ?_, (fun h => by cases h), by omega, by omega, hd⟩
        simp only [spec_l13Get.f, rd_pk, hb]
        exact Ev.posf (by omega) (Ev.posf (by omega) (Ev.posf (by omega) (Ev.bind h1 (Ev.negf (by simp) (Ev.now _)))))
      | true =>
        refine ⟨(doB t (pkAt P j).f1).1, (doB t (pkAt P j).f1).2, m + 1, Ev.step' ?_, (fun h => (doB_true h).2.2.2), by omega, by omega, hd⟩
        simp only [spec_l13Get.f, rd_pk, hb]
        exact Ev.posf (by omega) (Ev.posf (by omega) (Ev.posf (by omega) (Ev.bind h1 (Ev.posf rfl (Ev.bind (l13Do_ev (h2 rfl) a3) (Ev.now _))))))
    · refine ⟨(doB [] (pkAt P j).f1).1, (doB [] (pkAt P j).f1).2, 1, Ev.step' ?_, (fun h => (doB_true h).2.2.2), by omega, by omega, fun c hc1 hc2 => Ev.step' ?_⟩
      · simp only [spec_l13Get.f, rd_pk]
        exact Ev.posf (by omega) (Ev.posf (by omega) (Ev.negf c0 (Ev.bind (l13Do_ev rfl a3) (Ev.now _))))
      · simp only [spec_l13Deep.l0, rd_pk]
        exact Ev.posf (by omega) (Ev.posf (by omega) (Ev.negf c0 (EvT (Ev.now _) (by omega))))
theorem getGU_ev {P : List Pk} {q : Un} {i : Nat} (ha : okA P) (g : GU P q i) (hi : i ≤ P.length) : ∀ (n j : Nat), j < n → j < i → Ev (fun k => spec_l13Get.f k P (j : Int)) (txAt q.1 j, true) ∧
    ∀ c : Int, 1 ≤ c → c + dpAt q.2 j ≤ 1000 → Ev (fun k => spec_l13Deep.l0 k P (j : Int) c) (c + dpAt q.2 j - 1)
  | 0, j, h, hj => absurd h (by omega)
  | n + 1, j, h, hj => by
    obtain ⟨a1, a2, a3⟩ := ha j (by omega)
    obtain ⟨_, l1, l2, gg⟩ := g
    obtain ⟨g1, g2, g3, g4, g5, g6, g7⟩ := gg j hj
    by_cases c0 : (pkAt P j).f0 ≥ 0
    · obtain ⟨b, hb⟩ := toNat_of c0
      obtain ⟨h1, h2⟩ := getGU_ev ha ⟨by assumption, l1, l2, gg⟩ hi n b (by omega) (by omega)
      have gb := gg b (by omega)
      have ed : dpAt q.2 j = dpAt q.2 b + 1 := by rw [g7, dep, if_pos (by omega), hb]; rfl
      have eb : bs q (pkAt P j) = txAt q.1 b := by rw [bs, if_pos (by omega), hb]; rfl
      rw [eb] at g6
      refine ⟨Ev.step' ?_, fun c hc1 hc2 => Ev.step' ?_⟩
      · simp only [spec_l13Get.f, rd_pk, hb]
        exact Ev.posf (by omega) (Ev.posf (by omega) (Ev.posf (by omega) (Ev.bind h1 (Ev.posf rfl (Ev.bind (l13Do_ev gb.1 a3) (EvT (Ev.now _) g6))))))
      · simp only [spec_l13Deep.l0, rd_pk, hb, w64 (x := c + 1) (by omega) (by omega)]
        exact Ev.posf (by omega) (Ev.posf (by omega) (Ev.posf (by omega) (EvT (h2 (c + 1) (by omega) (by omega)) (by omega))))
    · have ed : dpAt q.2 j = 1 := by rw [g7, dep, if_neg (by omega)]
      have eb : bs q (pkAt P j) = [] := by rw [bs, if_neg (by omega)]
      rw [eb] at g6
      refine ⟨Ev.step' ?_, fun c hc1 hc2 => Ev.step' ?_⟩
      · simp only [spec_l13Get.f, rd_pk]
        exact Ev.posf (by omega) (Ev.posf (by omega) (Ev.negf c0 (Ev.bind (l13Do_ev rfl a3) (EvT (Ev.now _) g6))))
      · simp only [spec_l13Deep.l0, rd_pk]
        exact Ev.posf (by omega) (Ev.posf (by omega) (Ev.negf c0 (EvT (Ev.now _) (by omega))))
theorem loopLong_ev {P : List Pk} (hP : P.length ≤ 1000000) (hl : 12 < P.length) (ha : okA P) : ∀ (d i : Nat), P.length - i = d → i ≤ P.length → Ev (fun k => spec_l13PackOk.l1 k P i) false
  | 0, i, hd, hi => by
    refine Ev.step' ?_
    simp only [spec_l13PackOk.l1]
    exact Ev.negf (by omega) (EvT (Ev.now _) (decide_eq_false (by omega)))
  | d + 1, i, hd, hi => by
    obtain ⟨t, ok, m, h1, h2, h3, h4, h5⟩ := getAny_ev hP ha (i + 1) i (by omega) (by omega)
    refine Ev.step' ?_
    simp only [spec_l13PackOk.l1, w64_succ i (by omega)]
    refine Ev.posf (by omega) (Ev.bind h1 ?_)
    cases ok with
    | false => exact Ev.negf (by simp) (Ev.now _)
    | true =>
      refine Ev.posf rfl (Ev.bind (a := m) ?_ (Ev.ite (fun _ => Ev.now _) (fun _ => loopLong_ev hP hl ha d (i + 1) (by omega) (by omega))))
      unfold spec_l13Deep.f
      exact EvT (h5 1 (by omega) (by omega)) (by omega)
theorem loopShort_ev {P : List Pk} (hl : P.length ≤ 12) (ha : okA P) : ∀ (d i : Nat) (q : Un), P.length - i = d → i ≤ P.length → unG P i = some q → Ev (fun k => spec_l13PackOk.l1 k P i) (resU (unG P P.length)).2.2
  | 0, i, q, hd, hi, hq => by
    obtain rfl : i = P.length := by omega
    refine Ev.step' ?_
    simp only [spec_l13PackOk.l1]
    exact Ev.negf (by omega) (EvT (Ev.now _) (by rw [hq]; exact decide_eq_true (by omega)))
  | d + 1, i, q, hd, hi, hq => by
    have hi' : i < P.length := by omega
    obtain ⟨a1, a2, a3⟩ := ha i hi'
    have g := unG_good i q hq
    have e1 : unG P (i + 1) = stepU P i q := by rw [unG, hq]; rfl
    have hno : unG P (i + 1) = none → (resU (unG P P.length)).2.2 = false := fun hn => by
      have := unG_none hn (P.length - (i + 1))
      rw [show i + 1 + (P.length - (i + 1)) = P.length by omega] at this
      rw [this]; rfl
    have hdp := dep_pos (D := q.2) (b := (pkAt P i).f0) (fun j hj => (g.2.2.2 j (by have := g.2.2.1; omega)).2.1) (by have := g.2.2.1; omega)
    have key : Ev (fun k => spec_l13Get.f k P (i : Int)) (doB (bs q (pkAt P i)) (pkAt P i).f1) ∧ (dep q.2 (pkAt P i).f0 ≤ 4 ∧ Ev (fun k => spec_l13Deep.l0 k P (i : Int) 1) (dep q.2 (pkAt P i).f0)) := by
      by_cases c0 : (pkAt P i).f0 ≥ 0
      · obtain ⟨b, hb⟩ := toNat_of c0
        obtain ⟨h1, h2⟩ := getGU_ev ha g (by omega) i b (by omega) (by omega)
        have gb := g.2.2.2 b (by omega)
        have ed : dep q.2 (pkAt P i).f0 = dpAt q.2 b + 1 := by rw [dep, if_pos (by omega), hb]; rfl
        have eb : bs q (pkAt P i) = txAt q.1 b := by rw [bs, if_pos (by omega), hb]; rfl
        rw [eb, ed]
        refine ⟨Ev.step' ?_, by omega, Ev.step' ?_⟩
        · simp only [spec_l13Get.f, rd_pk, hb]
          exact Ev.posf (by omega) (Ev.posf (by omega) (Ev.posf (by omega) (Ev.bind h1 (Ev.posf rfl (Ev.bind (l13Do_ev gb.1 a3) (Ev.now _))))))
        · simp only [spec_l13Deep.l0, rd_pk, hb, w64 (x := (1 : Int) + 1) (by omega) (by omega)]
          exact Ev.posf (by omega) (Ev.posf (by omega) (Ev.posf (by omega) (EvT (h2 (1 + 1) (by omega) (by omega)) (by omega))))
      · have ed : dep q.2 (pkAt P i).f0 = 1 := by rw [dep, if_neg (by omega)]
        have eb : bs q (pkAt P i) = [] := by rw [bs, if_neg (by omega)]
        rw [eb, ed]
        refine ⟨Ev.step' ?_, by omega, Ev.step' ?_⟩
        · simp only [spec_l13Get.f, rd_pk]
          exact Ev.posf (by omega) (Ev.posf (by omega) (Ev.negf c0 (Ev.bind (l13Do_ev rfl a3) (Ev.now _))))
        · simp only [spec_l13Deep.l0, rd_pk]
          exact Ev.posf (by omega) (Ev.posf (by omega) (Ev.negf c0 (Ev.now _)))
    refine Ev.step' ?_
    simp only [spec_l13PackOk.l1, w64_succ i (by omega)]
    refine Ev.posf (by omega) (Ev.bind key.1 (Ev.ite (fun cd => Ev.bind (a := dep q.2 (pkAt P i).f0) (by unfold spec_l13Deep.f; exact key.2.2) (Ev.ite (fun c3 => EvT (Ev.now _) (hno ?_).symm) (fun c3 => ?_))) (fun cd => EvT (Ev.now _) (hno ?_).symm)))
    · rw [e1, stepU, if_neg (fun h => by omega)]
    · exact loopShort_ev hl ha d (i + 1) _ (by omega) (by omega) (by rw [e1, stepU, if_pos ⟨by omega, a1, a2, cd, by omega⟩])
    · rw [e1, stepU, if_neg (fun h => cd h.2.2.2.1)]
theorem first_ev {P : List Pk} (hs : PkS P) {r : Bool} (h1 : okA P → Ev (fun k => spec_l13PackOk.l1 k P 0) r) (h2 : ¬ okA P → r = false) : ∀ (d i : Nat), P.length - i = d → i ≤ P.length → (∀ j, j < i → -1 ≤ (pkAt P j).f0 ∧ (pkAt P j).f0 < (j : Int) ∧ deltaB (pkAt P j).f1 = true) → Ev (fun k => spec_l13PackOk.l0 k P i) r
  | 0, i, hd, hi, hj => by
    refine Ev.step' ?_
    simp only [spec_l13PackOk.l0]
    exact Ev.negf (by omega) (h1 (fun j hlt => hj j (by omega)))
  | d + 1, i, hd, hi, hj => by
    have hP := hs.1
    refine Ev.step' ?_
    simp only [spec_l13PackOk.l0, rd_pk, w64_succ i (by omega), in_eq, w64 (x := (i : Int) - 1) (by omega) (by omega)]
    refine Ev.posf (by omega) (Ev.posf (by omega) (Ev.somef (Ev.ite (fun c => ?_) (fun c => EvT (Ev.now _) (h2 (fun ha => c ?_)).symm))))
    · simp only [Bool.and_eq_true, decide_eq_true_eq] at c
      refine Ev.bind (specOk_ev _ (hs.get (by omega))) (Ev.ite (fun c2 => first_ev hs h1 h2 d (i + 1) (by omega) (by omega) (fun j hlt => ?_)) (fun c2 => EvT (Ev.now _) (h2 (fun ha => c2 (ha i (by omega)).2.2)).symm))
      by_cases e : j = i
      · subst e; exact ⟨c.1, by omega, c2⟩
      · exact hj j (by omega)
    · obtain ⟨b1, b2, _⟩ := ha i (by omega)
      simp only [Bool.and_eq_true, decide_eq_true_eq]; omega
theorem unG_okA {P : List Pk} : ∀ (n : Nat) (q : Un), unG P n = some q → ∀ j, j < n → -1 ≤ (pkAt P j).f0 ∧ (pkAt P j).f0 < (j : Int) ∧ deltaB (pkAt P j).f1 = true := fun n q h j hj => by
  obtain ⟨_, _, _, g⟩ := unG_good n q h
  obtain ⟨_, _, _, g4, g5, g6, _⟩ := g j hj
  exact ⟨g4, g5, (doB_true (t := bs q (pkAt P j)) (by rw [g6])).2.1⟩
theorem packOkAny_ev {P : List Pk} (hs : PkS P) : Ev (fun k => spec_l13PackOk.f k P) (resU (unG P P.length)).2.2 := by
  unfold spec_l13PackOk.f
  refine first_ev hs (fun ha => ?_) (fun ha => ?_) _ 0 rfl (by omega) (fun j hj => absurd hj (by omega))
  · by_cases hl : 12 < P.length
    · refine EvT (loopLong_ev hs.1 hl ha _ 0 rfl (by omega)) ?_
      cases hu : unG P P.length with
      | none => rfl
      | some q => have := (unG_good _ q hu).1; omega
    · exact loopShort_ev (by omega) ha _ 0 ([], []) rfl (by omega) rfl
  · cases hu : unG P P.length with
    | none => rfl
    | some q => exact absurd (fun j hj => unG_okA _ q hu j hj) ha
end Go.Proofs.Ytfnhjaiioojbkaa.Q
end
section
namespace Go.Proofs.Ytfnhjaiioojbkaa.Q
open Go.RowKit Go.Proofs.YtfnhjaiioojbkaaW.PrintWords
set_option linter.unusedVariables false
set_option linter.unusedSimpArgs false
theorem pk_delta {l : List Tx} {P : List Pk} {D : List Int} {n : Nat} (g : Gd l P D n) (ok : ∀ j, j < n → textB (txAt l j) = true) {j : Nat} (hj : j < n) : deltaB (pkAt P j).f1 = true := by
  obtain ⟨_, ⟨_, h, _⟩ | ⟨b, hb, _, h, _⟩⟩ := g.2.2 j hj
  · rw [h]; exact dOf_ok rfl (ok j hj)
  · rw [h]; exact dOf_ok (ok b (by omega)) (ok j hj)
theorem texts0_ev {b : List Int} (hb : Code b) : ∀ (d : Nat) (out : List Tx) (t : Tx) (p : Int), 0 ≤ p → p + 10 * d ≤ 1000000 → out.length + d ≤ 1000 → t.length ≤ 18 → Sz t → (∀ x ∈ out, x.length ≤ 18 ∧ Sz x) →
    ∃ r q, Ev (fun k => spec_l30Texts.l0 k out t d b p) (r, q) ∧ r.length = out.length + d ∧ (∀ x ∈ r, x.length ≤ 18 ∧ Sz x) ∧ p ≤ q ∧ q ≤ p + 10 * d
  | 0, out, t, p, h0, h1, h2, ht, hz, ho => by
    refine ⟨out, p, Ev.step' ?_, by omega, ho, by omega, by omega⟩
    simp only [spec_l30Texts.l0]
    exact Ev.negf (by omega) (Ev.now _)
  | d + 1, out, t, p, h0, h1, h2, ht, hz, ho => by
    obtain ⟨u, p1, hu, lu, zu, g1, g2⟩ := turn_ev hb (p := p) (by omega) (by omega) t (by omega) hz
    obtain ⟨r, q, hr, lr, hr2, q1, q2⟩ := texts0_ev hb d (out ++ [[] ++ t]) u p1 (by omega) (by omega) (by simp; omega) (by omega) zu (fun x hx => by
      rcases List.mem_append.mp hx with hx | hx
      · exact ho x hx
      · simp only [List.nil_append, List.mem_singleton] at hx
        subst hx; exact ⟨ht, hz⟩)
    refine ⟨r, q, Ev.step' ?_, by rw [lr]; simp; omega, hr2, by omega, by omega⟩
    simp only [spec_l30Texts.l0]
    rw [show wrap64 (((d + 1 : Nat) : Int) - 1) = (d : Int) by rw [w64 (by omega) (by omega)]; omega]
    exact Ev.posf (by omega) (Ev.somef (Ev.posf (by simp; omega) (Ev.posf (by omega) (Ev.bind hu hr))))
theorem texts_ev {b : List Int} (hb : Code b) {p : Int} (h0 : 0 ≤ p) (h1 : p ≤ 100000) : ∃ r q, Ev (fun k => spec_l30Texts.f k b p) (r, q) ∧ r.length ≤ 13 ∧ (∀ x ∈ r, x.length ≤ 18 ∧ Sz x) ∧ p ≤ q ∧ q ≤ p + 140 := by
  obtain ⟨t, p1, ht, lt, zt, g1, g2⟩ := text_ev hb h0 (by omega)
  obtain ⟨v, hv, hm⟩ := one_ev hb (p := p1) ⟨by omega, by omega⟩ (l := [0, 2, 5, 12, 13]) (by simp) (by simp)
  have hv8 : 0 ≤ v ∧ v ≤ 13 := by simp at hm; omega
  obtain ⟨d, rfl⟩ := toNat_of hv8.1
  obtain ⟨r, q, hr, lr, hr2, q1, q2⟩ := texts0_ev hb d [] t (p1 + 1) (by omega) (by omega) (by simp; omega) (by omega) zt (fun x hx => by cases hx)
  refine ⟨r, q, ?_, by rw [lr]; simp; omega, hr2, by omega, by omega⟩
  unfold spec_l30Texts.f
  exact Ev.bind ht (Ev.bind hv hr)
end Go.Proofs.Ytfnhjaiioojbkaa.Q
end
section
namespace Go.Proofs.Ytfnhjaiioojbkaa.Q
open Go.RowKit Go.Proofs.YtfnhjaiioojbkaaW.PrintWords
set_option linter.unusedVariables false
set_option linter.unusedSimpArgs false
def getB (P : List Pk) (a : Int) : Tx × Bool := match unG P P.length with
  | some q => if 0 ≤ a ∧ a ≤ (P.length : Int) - 1 then (txAt q.1 a.toNat, true) else ([], false)
  | none => ([], false)
theorem implGetAny_ev {P : List Pk} (hs : PkS P) (a : Int) : Ev (fun k => impl_PackGet.f k P a) (getB P a) := by
  have hP := hs.1
  have hu := unpackAny_ev hs
  unfold impl_PackGet.f
  unfold getB
  cases h : unG P P.length with
  | none =>
    rw [h] at hu
    exact Ev.bind hu (Ev.negf (by simp [resU]) (Ev.now _))
  | some q =>
    rw [h] at hu
    have g := unG_good _ q h
    simp only [within_eq, w64 (x := (P.length : Int) - 1) (by omega) (by omega)]
    refine Ev.bind hu (Ev.posf rfl (Ev.somef (Ev.ite (fun c => ?_) (fun c => ?_))))
    · simp only [Bool.and_eq_true, decide_eq_true_eq] at c
      rw [if_pos c]
      obtain ⟨j, rfl⟩ := toNat_of c.1
      exact Ev.posf (by omega) (Ev.posf (by have := g.2.1; simp only [resU]; omega) (EvT (Ev.now _) (by rw [rd_tx]; rfl)))
    · rw [if_neg (by simpa [Bool.and_eq_true, decide_eq_true_eq] using c)]
      exact Ev.now _
theorem specGetAny_ev {P : List Pk} (hs : PkS P) (a : Int) : Ev (fun k => spec_PackGet.f k P a) (getB P a) := by
  have hP := hs.1
  have hu := packOkAny_ev hs
  unfold spec_PackGet.f
  unfold getB
  cases h : unG P P.length with
  | none =>
    rw [h] at hu
    exact Ev.bind hu (Ev.negf (by simp [resU]) (Ev.now _))
  | some q =>
    rw [h] at hu
    have g := unG_good _ q h
    simp only [in_eq, w64 (x := (P.length : Int) - 1) (by omega) (by omega)]
    refine Ev.bind hu (Ev.posf rfl (Ev.somef (Ev.ite (fun c => ?_) (fun c => ?_))))
    · simp only [Bool.and_eq_true, decide_eq_true_eq] at c
      rw [if_pos c]
      obtain ⟨j, rfl⟩ := toNat_of c.1
      exact Ev.bind (getGU_ev (fun j hj => unG_okA _ q h j hj) g (by omega) (j + 1) j (by omega) (by omega)).1 (Ev.now _)
    · rw [if_neg (by simpa [Bool.and_eq_true, decide_eq_true_eq] using c)]
      exact Ev.now _
theorem implOkAny_ev {P : List Pk} (hs : PkS P) : Ev (fun k => impl_PackOk.f k P) (resU (unG P P.length)).2.2 := by
  unfold impl_PackOk.f
  exact Ev.bind (unpackAny_ev hs) (Ev.now _)
theorem specOkAny_ev {P : List Pk} (hs : PkS P) : Ev (fun k => spec_PackOk.f k P) (resU (unG P P.length)).2.2 := by
  unfold spec_PackOk.f
  exact Ev.bind (packOkAny_ev hs) (Ev.now _)
theorem deltaB_Sm {d : List Dl} (h : deltaB d = true) : SmD d := ⟨by have := (deltaB_len h).1; omega, fun x hx => by
  obtain ⟨_, _, _, h3, h4⟩ := piece_ok ((deltaB_len h).2 x hx)
  exact ⟨by omega, fun s hs => by have := h4 s hs; omega⟩⟩
theorem pkAt_mem {P : List Pk} {p : Pk} (h : p ∈ P) : ∃ j, j < P.length ∧ pkAt P j = p := by
  obtain ⟨j, hj, rfl⟩ := List.mem_iff_getElem.mp h
  exact ⟨j, hj, by simp [pkAt, List.getD_eq_getElem?_getD, hj]⟩
theorem packB_ok (l : List Tx) : ∀ p ∈ packB l, deltaB p.f1 = true := fun p hp => by
  unfold packB at hp
  split at hp
  case isTrue c =>
    have g := pk_ok l l.length
    obtain ⟨j, hj, rfl⟩ := pkAt_mem hp
    exact pk_delta g (all_at c.2) (by rw [g.1] at hj; exact hj)
  case isFalse => cases hp
theorem packB_len (l : List Tx) : (packB l).length ≤ 12 := by
  unfold packB
  split
  case isTrue c => rw [(pk_ok l l.length).1]; exact c.1
  case isFalse => simp
theorem l30Pack_ev {b : List Int} (hb : Code b) {p : Int} (h0 : 0 ≤ p) (h1 : p ≤ 1000) : ∃ P q, Ev (fun k => spec_l30Pack.f k b p) (P, q) ∧ PkS P ∧ P.length ≤ 12 ∧ 0 ≤ q ∧ q ≤ 2000 := by
  obtain ⟨r, q, hr, lr, hr2, q1, q2⟩ := texts_ev hb (p := p) h0 (by omega)
  have hp := specPack_ev r (fun x hx => Sm_of (by have := (hr2 x hx).1; omega) (hr2 x hx).2)
  have hl := packB_len r
  have hk := packB_ok r
  have hS : PkS (packB r) := ⟨by omega, fun x hx => deltaB_Sm (hk x hx)⟩
  have hset : ∀ (i : Nat) (x : Pk), SmD x.f1 → PkS ((packB r).set i x) ∧ ((packB r).set i x).length ≤ 12 := fun i x hx =>
    ⟨⟨by simp; omega, fun y hy => by
      rcases List.mem_or_eq_of_mem_set hy with h | rfl
      · exact hS.2 y h
      · exact hx⟩, by simp; omega⟩
  unfold spec_l30Pack.f
  by_cases hz : ((packB r).length : Int) > 0
  · obtain ⟨v, hv, v0, v1⟩ := pick_ev hb (p := q) ⟨by omega, by omega⟩ (n := ((packB r).length : Int)) (by omega)
    obtain ⟨u, hu, u0, u1⟩ := pick_ev hb (p := q + 1) ⟨by omega, by omega⟩ (n := 14) (by omega)
    have v1' := v1 (by omega)
    obtain ⟨j, rfl⟩ := toNat_of v0
    have hj : j < (packB r).length := by omega
    have hsj := hS.get hj
    by_cases c0 : u = 0
    · obtain ⟨y, hy, hm⟩ := one_ev hb (p := q + 1 + 1) ⟨by omega, by omega⟩ (l := [-2, (j : Int), 0]) (by simp) (by simp)
      have hx := hset j ⟨y, (pkAt (packB r) j).f1⟩ hsj
      refine ⟨_, _, Ev.bind hr (Ev.bind hp (Ev.posf hz (Ev.bind hv (Ev.bind hu (Ev.posf c0 (Ev.bind hy (Ev.posf (by omega) (Ev.posf (by omega) (Ev.now _))))))))), ?_, ?_, by omega, by omega⟩
      · rw [rd_pk]; exact hx.1
      · rw [rd_pk]; exact hx.2
    · by_cases c1 : u = 1
      · have hd := deltaB_len (hk (pkAt (packB r) j) (by rw [show pkAt (packB r) j = (packB r)[j] by simp [pkAt, List.getD_eq_getElem?_getD, hj]]; exact List.getElem_mem hj))
        have hx := hset j ⟨(pkAt (packB r) j).f0, (pkAt (packB r) j).f1 ++ [⟨9, 1, []⟩]⟩ ⟨by simp; omega, fun y hy => by
          rcases List.mem_append.mp hy with h | h
          · exact hsj.2 y h
          · rw [List.mem_singleton] at h
            subst h; exact ⟨by simp, by simp⟩⟩
        refine ⟨_, _, Ev.bind hr (Ev.bind hp (Ev.posf hz (Ev.bind hv (Ev.bind hu (Ev.negf c0 (Ev.posf c1 (Ev.posf (by omega) (Ev.posf (by omega) (Ev.posf (by rw [rd_pk]; omega) (Ev.now _)))))))))), ?_, ?_, by omega, by omega⟩
        · rw [rd_pk]; exact hx.1
        · rw [rd_pk]; exact hx.2
      · exact ⟨_, _, Ev.bind hr (Ev.bind hp (Ev.posf hz (Ev.bind hv (Ev.bind hu (Ev.negf c0 (Ev.negf c1 (Ev.now _))))))), hS, hl, by omega, by omega⟩
  · exact ⟨_, _, Ev.bind hr (Ev.bind hp (Ev.negf hz (Ev.now _))), hS, hl, by omega, by omega⟩
theorem drawPackGet_ev {l : List Int} (h : ∀ x ∈ l, 0 ≤ x ∧ x ≤ 255) : ∃ P a, Ev (fun k => spec_DrawPackGet.f k l) (P, a) ∧ PkS P := by
  obtain ⟨c, hc, hb⟩ := open_ev h
  obtain ⟨P, q, hP, hS, hl, q0, q1⟩ := l30Pack_ev hb (p := 0) (by omega) (by omega)
  obtain ⟨v, hv, _⟩ := pick_ev hb (p := q) ⟨by omega, by omega⟩ (n := wrap64 ((P.length : Int) + 2)) (by rw [w64 (by omega) (by omega)]; omega)
  unfold spec_DrawPackGet.f
  simp only [hc, Option.bind_some]
  exact ⟨P, _, Ev.bind hP (Ev.bind hv (Ev.now _)), hS⟩
end Go.Proofs.Ytfnhjaiioojbkaa.Q
end
section
namespace Go.Proofs.Ytfnhjaiioojbkaa.Pure
open Go.RowKit Go.Proofs.Ytfnhjaiioojbkaa.Q Go.Proofs.YtfnhjaiioojbkaaW.PrintWords Go.Proofs.YtfnhjaiioojbkaaW.PrintLast
set_option linter.unusedVariables false
set_option linter.unusedSimpArgs false
theorem getB_len (P : List Pk) (a : Int) : (getB P a).1.length ≤ 10 := by
  unfold getB
  cases h : unG P P.length with
  | none => simp
  | some q =>
    simp only
    split
    case isTrue c => exact textB_len ((unG_good _ q h).2.2.2 a.toNat (by omega)).1
    case isFalse => simp
theorem FnPackGet : laws_FnPackGet.Pure := by
  intro l _ _ h
  refine Ev.rounds (r := true) (g := fun k => laws_FnPackGet.f k l) ?_
  obtain ⟨P, a, hd, hs⟩ := drawPackGet_ev (bytes_of h)
  have hI := implGetAny_ev hs a
  have hS := specGetAny_ev hs a
  have oI := implOkAny_ev hs
  have oS := specOkAny_ev hs
  have hT : Ev (fun k => laws_smTexts.f k (getB P a).1 (getB P a).1) true := smTexts_refl _ (by have := getB_len P a; omega)
  unfold laws_FnPackGet.f
  refine Ev.ite (fun _ => Ev.now _) (fun _ => Ev.bind hd (Ev.bind hI (Ev.bind hS ?_)))
  refine Ev.negf (by simp) (Ev.bind hT (Ev.posf rfl (Ev.bind oI (Ev.bind oS (Ev.negf (by simp) ?_)))))
  refine Ev.step' ?_
  simp only [laws_FnPackGet.j0]
  cases e : (getB P a).2 with
  | false => exact Ev.posf rfl (Ev.posf (by simp) (Ev.bind hT (Ev.posf rfl (Ev.bind oI (Ev.bind oS (EvT (Ev.now _) (by simp)))))))
  | true =>
    refine Ev.negf (by simp) ?_
    cases hu : unG P P.length with
    | none => rw [getB, hu] at e; cases e
    | some q =>
      have g := unG_good _ q hu
      by_cases c : 0 ≤ a ∧ a ≤ (P.length : Int) - 1
      · obtain ⟨j, rfl⟩ := toNat_of c.1
        have eg : getB P (j : Int) = (txAt q.1 j, true) := by simp only [getB, hu]; rw [if_pos c]; rfl
        obtain ⟨g1, g2, g3, g4, g5, g6, g7⟩ := g.2.2.2 j (by omega)
        have hsj := hs.get (j := j) (by omega)
        have hT2 : Ev (fun k => laws_smTexts.f k (txAt q.1 j) (txAt q.1 j)) true := smTexts_refl _ (by have := textB_len g1; omega)
        rw [eg]
        simp only [rd_pk]
        refine Ev.posf c.1 (Ev.posf (by omega) (Ev.ite (fun c0 => ?_) (fun c0 => ?_)))
        · obtain ⟨b, hb⟩ := toNat_of c0
          have eb : getB P (b : Int) = (txAt q.1 b, true) := by simp only [getB, hu]; rw [if_pos (by omega)]; rfl
          have gb := g.2.2.2 b (by omega)
          have es : bs q (pkAt P j) = txAt q.1 b := by rw [bs, if_pos (by omega), hb]; rfl
          have hG := implGetAny_ev hs (b : Int)
          have hD := implDeltaDo_ev (txAt q.1 b) (pkAt P j).f1 (textB_Sm gb.1) hsj
          rw [es] at g6
          rw [eb] at hG
          rw [g6] at hD
          rw [hb] at g5 ⊢
          exact Ev.bind hG (Ev.bind hD (Ev.posf rfl (Ev.bind hT2 (Ev.posf rfl (EvT (Ev.now _) (decide_eq_true g5))))))
        · have es : bs q (pkAt P j) = [] := by rw [bs, if_neg (by omega)]
          have hD := implDeltaDo_ev [] (pkAt P j).f1 ⟨by simp, by simp⟩ hsj
          rw [es] at g6
          rw [g6] at hD
          exact Ev.bind hD (Ev.posf rfl (Ev.bind hT2 (Ev.posf rfl (EvT (Ev.now _) (decide_eq_true g5)))))
      · simp only [getB, hu] at e; rw [if_neg c] at e; cases e
end Go.Proofs.Ytfnhjaiioojbkaa.Pure
end
section
namespace Go.Proofs.YtfnhjaiioojbkaaW.PrintWords
open Go.ChangeShapes Go.WideShapes
/-- A row's slice of whole numbers is no longer than its weight allows. -/
theorem sized_ints {H : Type} {enc : TypeId × Value → H} {P : Program} {W : World} {base : Nat} {spare : Nat → Bool} {held : Bool} {t e : TypeId} {k : IntKind} {a : Option Addr} {len cap : Nat} {d : DataW H} {ps : List MemPlace} {ts : List TypeId} {ds : List (DataW H)} {j : Nat}
 (hsz : (DataW.weightsEach P ts ds).all (· ≤ reachBytes) = true) (ht : ts[j]? = some t) (hd : ds[j]? = some d) (hu : P.underlying t = some (.slice e)) (he : P.underlying e = some (.int k)) (hc : P.cellsOf e = 1) {B : Nat} (hB : P.bytesOf e = B)
 (h : DataW.Trod enc P W base spare held t (.slice a len cap) d ps) : len * B ≤ 140737488351232 := by
 obtain ⟨fuel, hf⟩ := h
 rcases open_ints hu he hc hf with ⟨hcs, _⟩ | ⟨x, l, c, zs, hcs, _, hl, _, hz, hx, _, _⟩
 ·simp [Value.cells] at hcs
  obtain ⟨rfl, rfl, rfl⟩ := hcs
  simp
 ·simp [Value.cells] at hcs
  obtain ⟨rfl, rfl, rfl⟩ := hcs
  obtain ⟨hx, _⟩ := Prod.mk.inj hx
  subst hx
  have z := sized_slice hsz ht hd hu
  rw [hB] at z
  have hl2 : len ≤ zs.length := by
   rw [hz]
   split
   ·exact hl
   ·exact Nat.le_refl _
  have h1 : (lits (H := H) k (zs.take len)).length + (lits (H := H) k (zs.drop len)).length = zs.length := by
   simp [lits]
   omega
  rw [h1] at z
  exact Nat.le_trans (Nat.mul_le_mul_right _ hl2) z
end Go.Proofs.YtfnhjaiioojbkaaW.PrintWords
end
section
namespace Go.Proofs.Ytfnhjaiioojbkaa.fnPackGet
open Go.ChangeShapes Go.WideShapes Go.ChangeAt Go.RowKit
open Go.ChangeMaps (open_string shut_string)
set_option linter.unusedVariables false
theorem own : ownKnob Try.prog.godebug = none := by kernel_rfl
theorem laidOut : laidOutB Try.prog = true := by kernel_rfl
def IsRow (k : IntKind) (w : World) (a : Option Addr) (len cap : Nat) (zs : List Int) : Prop :=
  (a = none ∧ len = 0 ∧ cap = 0 ∧ zs = []) ∨
  ∃ x, a = some x ∧ len ≤ cap ∧ cap ≤ maxLen ∧ zs.length = cap ∧ (∀ i, i < zs.length → w.cell? (x.add i) = some (.int k (zs.getD i 0))) ∧ ∀ n ∈ zs, (Lit.int k n).wf = true
set_option maxRecDepth 100000 in
theorem lifted (os : Os) (started : os.Started) (H : Type) (enc : TypeId × Value → H) :
    ReturnsInHanded {} Try.checked os 8 .any (Rows.fnPackGetSpec.pre6 enc Try.prog Try.f8 Rows.fnPackGetRow.domain false) (Rows.fnPackGetSpec.post enc Try.prog Try.f8 false true false false) := by
  refine returnsInHanded_of_change_sized (C := Try.checked) own started (by kernel_rfl) Try.func8
    (ChangeSpec.witness6 (enc := enc) (C := Try.checked) false ⟨#[], #[.slice none 0 0], []⟩ 8 (by kernel_rfl) (by kernel_rfl) (by kernel_rfl) (by kernel_rfl)) ?_
  intro W base args ds gs before hval0 hW hcnd hsz0 _
  have hsz : (DataW.weightsEach Try.prog (Try.f8.params.toList ++ Rows.fnPackGetSpec.plain.varTypes Try.prog) (ds ++ gs)).all (· ≤ reachBytes) = true := hsz0
  have hval : ∀ (j : Nat) t v, Try.f8.params[j]? = some t → args[j]? = some v → Value.okWide Try.prog W .any base t v := hval0
  have hW' := hW
  obtain ⟨p, q, hA0, hV, rfl, hfz, hnd⟩ := hW
  have hA : DataW.TrodAll enc Try.prog W 0 (fun _ => true) true Try.f8.params.toList args.toList ds p := hA0
  rw [Try.params8] at hA hval hsz
  obtain ⟨v0, vs0, d0, ds0, p0, q0, hargs, rfl, rfl, h0, r0⟩ := trodAll_cons hA
  obtain ⟨rfl, rfl, rfl⟩ := trodAll_nil r0
  obtain rfl : args = #[v0] := by cases args; simp_all
  obtain ⟨rfl, rfl⟩ := trodVars_none hV
  obtain ⟨a0, len0, cap0, rfl⟩ := okWide_slice Try.underlying29 (hval 0 29 v0 rfl rfl)
  have k0 := h0
  have lt0 : ∀ x ∈ p0, x.block < W.heap.size := by obtain ⟨m, hm⟩ := k0; exact DataW.trod_lt m _ _ _ hm
  obtain ⟨z0, w0⟩ : ∃ zs, IsRow .u8 W a0 len0 cap0 zs := by
    obtain ⟨fuel, hf⟩ := h0
    rcases open_ints Try.underlying29 Try.underlying5 (by kernel_rfl) hf with ⟨hcs, _⟩ | ⟨x, l, c, zs, hcs, _, hl, hm, hz, _, hcell, hwz⟩
    · simp [Value.cells] at hcs
      obtain ⟨rfl, rfl, rfl⟩ := hcs
      exact ⟨[], .inl ⟨rfl, rfl, rfl, rfl⟩⟩
    · simp [Value.cells] at hcs
      obtain ⟨rfl, rfl, rfl⟩ := hcs
      exact ⟨zs, .inr ⟨_, rfl, hl, hm, by simpa using hz, hcell, hwz⟩⟩
  have y0 : len0 * 1 ≤ 140737488351232 := Go.Proofs.YtfnhjaiioojbkaaW.PrintWords.sized_ints hsz (j := 0) (t := 29) rfl rfl Try.underlying29 Try.underlying5 (by kernel_rfl) (by kernel_rfl) h0
  clear hA0 hval0 hsz0 hsz
  refine (Q.laws_FnPackGet.walk Pure.FnPackGet a0 len0 cap0 z0 W w0 y0).mono fun e W' ⟨he, bel⟩ => ?_
  subst he
  exact ⟨_, rfl, _, _, _, [], _, [], hW', trodAll_mk1 (shut_bool Try.underlying4 _), (trodAll_cons_mk (Below.trod laidOut (by kernel_rfl) (of_decide_eq_true (by kernel_rfl)) k0 bel lt0) trodAll_mk0), rfl, bel.frame _, fun h => by cases h⟩
theorem over : Rows.fnPackGetRow.holds Try.pinned (OpenSpec.ofChange Rows.fnPackGetSpec) :=
  OpenClaim.holds_of_wide 8 Try.f8 rfl rfl rfl rfl rfl rfl rfl ⟨rfl, rfl, rfl, rfl, rfl⟩ rfl rfl rfl rfl rfl (by kernel_rfl) Try.func8 (by kernel_rfl)
    (of_decide_eq_true (by kernel_rfl)) (by unfold Func.isWrapper; first | (rw [if_pos (by decide +kernel)]; kernel_rfl) | (rw [if_neg (by decide +kernel)]; exact ⟨rfl, rfl⟩))
    (fun os started H enc _ => lifted os started H enc)
theorem proved : Rows.FnPackGetSaid := over
#print axioms proved
end Go.Proofs.Ytfnhjaiioojbkaa.fnPackGet
namespace Go.Proofs.Ytfnhjaiioojbkaa
/-- The row, under a short name, for the claim. -/
theorem fnPackGet_holds : Rows.FnPackGetSaid := fnPackGet.proved
end Go.Proofs.Ytfnhjaiioojbkaa
end
