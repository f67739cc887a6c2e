/- BOARDS: the two ways to look at a side agree. Printed by program from a template (no program in sight). -/
import Derived.Test.YtkinlkcdjecgmaaDoorDeskE
namespace Go.AX
open Go

def lsum : List Int → Int
  | [] => 0
  | x :: l => x + lsum l
theorem lsum_nonneg : ∀ {l : List Int}, (∀ x ∈ l, 0 ≤ x) → 0 ≤ lsum l
  | [], _ => by simp [lsum]
  | x :: l, h => by
    have := lsum_nonneg (l := l) (fun y hy => h y (by simp [hy]))
    have := h x (by simp)
    simp only [lsum]; omega
theorem le_lsum : ∀ {l : List Int}, (∀ x ∈ l, 0 ≤ x) → ∀ x ∈ l, x ≤ lsum l
  | y :: l, h, x, hx => by
    have h1 := lsum_nonneg (l := l) (fun z hz => h z (by simp [hz]))
    have h2 := h y (by simp)
    simp only [lsum]
    rcases List.mem_cons.1 hx with rfl | hx
    · omega
    · have := le_lsum (fun z hz => h z (by simp [hz])) x hx; omega
theorem foldl_wrap : ∀ {l : List Int} {a : Int}, 0 ≤ a → (∀ x ∈ l, 0 ≤ x ∧ x ≤ 15) → a + 15 * l.length ≤ 1000000 → l.foldl (fun a x => IntKind.i64.wrap (a + x)) a = a + lsum l
  | [], a, _, _, _ => by simp [lsum]
  | x :: l, a, ha, h, hb => by
    have h1 := h x (by simp)
    simp only [List.length_cons] at hb
    simp only [List.foldl_cons, lsum]
    rw [wrap64 (by omega), foldl_wrap (by omega) (fun y hy => h y (by simp [hy])) (by omega)]
    omega
theorem wsum_eq {l : List Int} (h : ∀ x ∈ l, 0 ≤ x ∧ x ≤ 15) (hl : l.length ≤ 25) : wsum l = lsum l := by
  unfold wsum
  rw [foldl_wrap (by omega) h (by omega)]; omega
theorem sideGo_iff : ∀ {l : List Int} {left : Int}, 0 ≤ left → left ≤ 15 → (sideGo left l = true ↔ (∀ x ∈ l, 0 ≤ x) ∧ lsum l ≤ left)
  | [], left, h0, h1 => by simp [sideGo, lsum]; omega
  | x :: l, left, h0, h1 => by
    simp only [sideGo, lsum]
    by_cases hx : x < 0 ∨ left < x
    · simp only [hx, if_true, Bool.false_eq_true, false_iff]
      rintro ⟨h2, h3⟩
      have h4 := h2 x (by simp)
      have h5 := lsum_nonneg (l := l) (fun z hz => h2 z (by simp [hz]))
      omega
    · rw [if_neg hx, wrap64 (by omega), sideGo_iff (by omega) (by omega)]
      simp only [List.mem_cons, forall_eq_or_imp]
      constructor
      · rintro ⟨h2, h3⟩; exact ⟨⟨by omega, h2⟩, by omega⟩
      · rintro ⟨⟨_, h2⟩, h3⟩; exact ⟨h2, by omega⟩

theorem side_eq {q : Nat} {c : Int} {l : List Int} (hq : q ≤ 24) (hc : 1 ≤ c ∧ c ≤ 15) : sideI q c l = sideB q c l := by
  unfold sideI sideB
  by_cases hl : (l.length : Int) = IntKind.i64.wrap ((q : Int) + 1)
  · have hlen : l.length = q + 1 := by rw [wrap64 (by omega)] at hl; omega
    simp only [hl, decide_true, Bool.true_and]
    rw [Bool.eq_iff_iff, sideGo_iff (by omega) (by omega)]
    simp only [Bool.and_eq_true, List.all_eq_true, decide_eq_true_eq, inB]
    constructor
    · rintro ⟨h1, h2⟩
      have h3 := le_lsum h1
      refine ⟨fun x hx => ⟨h1 x hx, by have := h3 x hx; omega⟩, ?_⟩
      rw [wsum_eq (fun x hx => ⟨h1 x hx, by have := h3 x hx; omega⟩) (by omega)]; exact h2
    · rintro ⟨h1, h2⟩
      rw [wsum_eq (fun x hx => ⟨(h1 x hx).1, by have := (h1 x hx).2; omega⟩) (by omega)] at h2
      exact ⟨fun x hx => (h1 x hx).1, h2⟩
  · simp only [hl, decide_false, Bool.false_and]

theorem side_sum {q : Nat} {c : Int} {l : List Int} (hq : q ≤ 24) (hc : 1 ≤ c ∧ c ≤ 15) (h : sideB q c l = true) : (∀ x ∈ l, 0 ≤ x ∧ x ≤ 15) ∧ wsum l = lsum l ∧ 0 ≤ wsum l ∧ wsum l ≤ 15 ∧ l.length = q + 1 := by
  have hlen := side_len hq h
  simp only [sideB, Bool.and_eq_true, List.all_eq_true, decide_eq_true_eq, inB] at h
  obtain ⟨_, h1, h2⟩ := h
  have h3 : ∀ x ∈ l, 0 ≤ x ∧ x ≤ 15 := fun x hx => ⟨(h1 x hx).1, by have := (h1 x hx).2; omega⟩
  have h4 := wsum_eq h3 (by omega)
  have h5 := lsum_nonneg (fun x hx => (h3 x hx).1)
  exact ⟨h3, h4, by omega, by omega, hlen⟩

theorem board_eq (p c h s : Int) (x y : List Int) : boardI p c h s x y = boardS p c h s x y := by
  unfold boardI boardS
  cases h1 : isVar p c h s
  · rfl
  obtain ⟨q, rfl, _, hq⟩ := var_nat h1
  have hc : 1 ≤ c ∧ c ≤ 15 := by simp [isVar, inB] at h1; omega
  rw [side_eq hq hc, side_eq hq hc]
  cases h2 : sideB q c x
  · rfl
  cases h3 : sideB q c y
  · rfl
  obtain ⟨_, _, a1, a2, _⟩ := side_sum hq hc h2
  obtain ⟨_, _, b1, b2, _⟩ := side_sum hq hc h3
  rw [wrap64 (by omega)]
  congr 3
  by_cases e1 : wsum x = 0
  · by_cases e2 : wsum y = 0
    · simp [e1, e2]
    · have : ¬ wsum x + wsum y = 0 := by omega
      simp [e1, e2]
  · have : ¬ wsum x + wsum y = 0 := by omega
    simp [e1, this]
end Go.AX
