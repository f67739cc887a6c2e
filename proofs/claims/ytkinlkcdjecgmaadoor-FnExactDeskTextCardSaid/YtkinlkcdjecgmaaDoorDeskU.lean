/- READING A DESK ARGUMENT. Printed by program from a template. -/
import Derived.Test.YtkinlkcdjecgmaaDoorDeskT
namespace Go.AX
open Go Go.Proofs
set_option maxRecDepth 100000
set_option maxHeartbeats 4000000

theorem hasInt {P : Program} {n : Nat} {t : TypeId} {k : IntKind} {ts : List T} (ht : P.underlying t = some (.int k)) (h : HasT P (n + 1) t ts) : ∃ m, ts = [.int k m] := by
  simp only [HasT, ht] at h
  obtain ⟨m, h, _⟩ := h
  exact ⟨m, h⟩
theorem hasL {P : Program} {n : Nat} {t e : TypeId} {ts : List T} (ht : P.underlying t = some (.slice e)) (he : P.underlying e = some (.int .i64)) (hc : P.cellsOf e = 1) (h : HasT P (n + 2) t ts) :
    ∃ x l, ts = [x] ∧ IsL x l ∧ l.length ≤ 9223372036854775807 := by
  simp only [HasT, ht] at h
  rcases h with rfl | rfl | ⟨m, cs, rfl, hm, hm2, hlen, hall⟩
  · exact ⟨_, [], rfl, .inl ⟨rfl, .inl rfl⟩, by simp⟩
  · exact ⟨_, [], rfl, .inl ⟨rfl, .inr rfl⟩, by simp⟩
  · rw [hc, Nat.mul_one] at hlen
    have hex : ∀ i (hi : i < cs.length), ∃ z, cs[i] = T.int .i64 z := by
      intro i hi
      have := hall i (by omega)
      simp only [he, hc, Nat.mul_one] at this
      obtain ⟨z, hz, _⟩ := this
      refine ⟨z, ?_⟩
      rw [List.drop_eq_getElem_cons hi] at hz
      exact (List.cons.inj hz).1
    have hl : ∃ l : List Int, cs = ints l := by
      clear hall hlen
      induction cs with
      | nil => exact ⟨[], rfl⟩
      | cons c cs ih =>
        obtain ⟨l, rfl⟩ := ih (fun i hi => hex (i + 1) (by simpa using hi))
        obtain ⟨z, hz⟩ := hex 0 (by simp)
        simp at hz
        exact ⟨z :: l, by simp [ints, hz]⟩
    obtain ⟨l, rfl⟩ := hl
    have hll : l.length = m := by rw [← hlen, ints_length]
    subst hll
    exact ⟨_, l, rfl, .inr ⟨by intro h; subst h; simp at hm, rfl⟩, hm2⟩
theorem hasBoard {n : Nat} {ts : List T} (h : HasT Tryd.prog (n + 3) 26 ts) : ∃ q : AB, ts = [q.1.1, q.2.1] ∧ okAB q := by
  rw [HasT, Tryd.underlying26] at h
  simp only [show Tryd.prog.cellsOf 26 = 2 from by kernel_rfl] at h
  obtain ⟨hlen, hf⟩ := h
  obtain ⟨a, b, rfl⟩ : ∃ a b, ts = [a, b] := by
    match ts, hlen with
    | [a, b], _ => exact ⟨a, b, rfl⟩
  simp [show Tryd.prog.cellsOf 24 = 1 from by kernel_rfl] at hf
  obtain ⟨h1, h2⟩ := hf
  obtain ⟨x, l, hx, i1, i2⟩ := hasL (n := n) (t := 24) Tryd.underlying24 Tryd.underlying2 (by kernel_rfl) h1
  obtain ⟨y, m, hy, i3, i4⟩ := hasL (n := n) (t := 24) Tryd.underlying24 Tryd.underlying2 (by kernel_rfl) h2
  simp at hx hy
  subst hx hy
  exact ⟨((a, l), (b, m)), rfl, i1, i3, i2, i4⟩
theorem hasP {n : Nat} {ts : List T} (h : HasT Tryd.prog (n + 4) 29 ts) : ∃ x L, ts = [x] ∧ IsP x L ∧ (∀ q ∈ L, okAB q) ∧ L.length ≤ 9223372036854775807 := by
  have hc : Tryd.prog.cellsOf 26 = 2 := by kernel_rfl
  rw [HasT, Tryd.underlying29] at h
  simp only [hc] at h
  rcases h with rfl | rfl | ⟨m, cs, rfl, hm, hm2, hlen, hall⟩
  · exact ⟨_, [], rfl, .inl ⟨rfl, .inl rfl⟩, by simp, by simp⟩
  · exact ⟨_, [], rfl, .inl ⟨rfl, .inr rfl⟩, by simp, by simp⟩
  · have key : ∀ (m : Nat) (cs : List T), cs.length = m * 2 → (∀ i, i < m → HasT Tryd.prog (n + 3) 26 ((cs.drop (i * 2)).take 2)) → ∃ L : List AB, cs = abC L ∧ L.length = m ∧ ∀ q ∈ L, okAB q := by
      intro m
      induction m with
      | zero => intro cs h _; exact ⟨[], by have h9 : cs = [] := List.length_eq_zero_iff.1 (by omega); rw [h9]; rfl, rfl, by simp⟩
      | succ m ih =>
        intro cs h hall
        match cs, h with
        | a :: b :: cs, h =>
          obtain ⟨q, hq, ok⟩ := hasBoard (by simpa using hall 0 (by omega))
          obtain ⟨L, rfl, hL, hok⟩ := ih cs (by simp only [List.length_cons] at h; omega) (fun i hi => by
            have := hall (i + 1) (by omega)
            rw [show (i + 1) * 2 = i * 2 + 2 from by omega] at this
            simpa using this)
          simp at hq
          refine ⟨q :: L, by simp [abC, hq], by simp [hL], fun z hz => ?_⟩
          rcases List.mem_cons.1 hz with rfl | hz
          · exact ok
          · exact hok z hz
        | [], h => simp at h
        | [a], h => simp at h; omega
    obtain ⟨L, rfl, hL, hok⟩ := key m cs hlen hall
    subst hL
    exact ⟨_, L, rfl, .inr ⟨by intro h; subst h; simp at hm, rfl⟩, hok, hm2⟩
theorem hasDesk {n : Nat} {ts : List T} (ht : HasT Tryd.prog (n + 5) 31 ts) :
    ∃ p c h s X Y a b seed Z x y L, argAV Tryd.prog 31 ts = dArg p c h s X Y a b seed Z ∧ IsL X x ∧ IsL Y y ∧ IsP Z L ∧ (∀ q ∈ L, okAB q) ∧ x.length ≤ 9223372036854775807 ∧ y.length ≤ 9223372036854775807 ∧ L.length ≤ 9223372036854775807 := by
  have hav : argAV Tryd.prog 31 ts = .agg (ts.map .t) := by unfold argAV; rw [Tryd.underlying31]
  rw [hav]
  rw [HasT, Tryd.underlying31] at ht
  simp only [show Tryd.prog.cellsOf 31 = 10 from by kernel_rfl] at ht
  obtain ⟨hlen, hf⟩ := ht
  obtain ⟨a0, a1, a2, a3, a4, a5, a6, a7, a8, a9, rfl⟩ : ∃ a0 a1 a2 a3 a4 a5 a6 a7 a8 a9, ts = [a0, a1, a2, a3, a4, a5, a6, a7, a8, a9] := by
    match ts, hlen with
    | [a0, a1, a2, a3, a4, a5, a6, a7, a8, a9], _ => exact ⟨a0, a1, a2, a3, a4, a5, a6, a7, a8, a9, rfl⟩
  simp [show Tryd.prog.cellsOf 23 = 4 from by kernel_rfl, show Tryd.prog.cellsOf 26 = 2 from by kernel_rfl, show Tryd.prog.cellsOf 28 = 2 from by kernel_rfl, show Tryd.prog.cellsOf 2 = 1 from by kernel_rfl, show Tryd.prog.cellsOf 29 = 1 from by kernel_rfl] at hf
  obtain ⟨hv, hb, hr, hs, hp⟩ := hf
  rw [HasT, Tryd.underlying23] at hv
  rw [HasT, Tryd.underlying28] at hr
  simp [show Tryd.prog.cellsOf 2 = 1 from by kernel_rfl] at hv hr
  obtain ⟨q, hq, ok1, ok2, ok3, ok4⟩ := hasBoard (n := n + 1) hb
  obtain ⟨Z, L, hZ, z1, z2, z3⟩ := hasP hp
  obtain ⟨-, v1, v2, v3, v4⟩ := hv
  obtain ⟨-, r1, r2⟩ := hr
  obtain ⟨p, e1⟩ := hasInt Tryd.underlying2 v1
  obtain ⟨c, e2⟩ := hasInt Tryd.underlying2 v2
  obtain ⟨h, e3⟩ := hasInt Tryd.underlying2 v3
  obtain ⟨s, e4⟩ := hasInt Tryd.underlying2 v4
  obtain ⟨a, e5⟩ := hasInt Tryd.underlying2 r1
  obtain ⟨b, e6⟩ := hasInt Tryd.underlying2 r2
  obtain ⟨seed, e7⟩ := hasInt Tryd.underlying2 hs
  simp at e1 e2 e3 e4 e5 e6 e7 hq hZ
  subst e1 e2 e3 e4 e5 e6 e7 hZ
  obtain ⟨rfl, rfl⟩ := hq
  exact ⟨p, c, h, s, _, _, a, b, seed, _, _, _, L, rfl, ok1, ok2, z1, z2, ok3, ok4, z3⟩
end Go.AX
