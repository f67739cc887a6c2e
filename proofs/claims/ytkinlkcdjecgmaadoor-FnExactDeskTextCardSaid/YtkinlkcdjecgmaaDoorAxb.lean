/- AN EVALUATOR OVER THE CALCULUS, of no program, part two: calls, every operation, regions in every order. -/
import Derived.Test.YtkinlkcdjecgmaaDoorAxa
namespace Go.AX
open Go Go.RowKit
variable [Cst]

section
variable {P : Program} {nt : Nat} {w0 w w' : World} {N M0 : Nat → Prop} {E : Emb} {st : St} {a : Act}

/-- What is shown of an operation that calls no Go function. -/
abbrev Fine (P : Program) (nt : Nat) (w0 : World) (N M0 : Nat → Prop) (st : St) (a : Act) (w : World) (o : Oper) (e : Eff) : Prop :=
  ∃ nx w' v, (execOp a.eval o).run P w = .ok nx w' ∧ (nx = .value v ∨ (nx = .skip ∧ v = undef)) ∧ ∃ E', Sim nt w0 N M0 E' (st.app o.dst e) (a.put o.dst v) w'

theorem fine_of_yields (h : Sim nt w0 N M0 E st a w) {o : Oper} {e : Eff} (hd : ∀ t, o.dst = some t → t < nt) (hy : e.ws = [] ∧ Yields P N E st a w o e.v) : Fine P nt w0 N M0 st a w o e := by
  obtain ⟨hw, v, hr, hv⟩ := hy
  obtain ⟨ev, ws⟩ := e
  simp only at hw hv; subst hw
  exact ⟨_, w, v, hr, .inl rfl, E, h.pure hd hv⟩

omit [Cst] in
theorem one_grown {id : Nat} {h' : Value} {ob' : AOb} (hg : w.grownBy w' (blk (E id))) (hlive : ∀ g, blk (E id) = some g → (st.o id).2.live = true)
    (hnew : ∀ g, blk h' = some g → blk (E id) = some g ∨ w.heap.size ≤ g) : One st E w w' id ((st.o id).1 + 1) h' ob' where
  ver := Nat.le_succ _
  same e := by omega
  size := hg.size
  strm := ⟨hg.os, hg.tape, hg.output⟩
  block b hb hn := by
    refine hg.block b hb (fun e => hn ⟨hlive b e.symm, e.symm⟩)
  new _ g e := by
    rcases hnew g e with h1 | h1
    · exact .inl ⟨h1, AOb.live_nd (hlive g h1), fun _ => hlive g h1⟩
    · exact .inr h1

omit [Cst] in
/-- A new object at a number of the call's own. -/
theorem one_new {id : Nat} {h' : Value} {ob' : AOb} (hz : w.heap.size ≤ w'.heap.size) (hs : Streams w w') (hb : ∀ b, b < w.heap.size → w'.heap[b]? = w.heap[b]?)
    (hnew : ∀ g, blk h' = some g → w.heap.size ≤ g) : One st E w w' id ((st.o id).1 + 1) h' ob' :=
  ⟨Nat.le_succ _, fun e => by omega, hz, hs, fun b h _ => hb b h, fun _ g e => .inr (hnew g e)⟩

omit [Cst] in
theorem one_alloc (obj : Obj) {id : Nat} {h' : Value} {ob' : AOb} (hb : blk h' = some w.heap.size) : One st E w (w.alloc obj) id ((st.o id).1 + 1) h' ob' :=
  one_new (by show w.heap.size ≤ (w.heap.push obj).size; simp) ⟨rfl, rfl, rfl⟩ (fun b h => Go.heap_alloc_old w obj h) (fun g e => by rw [hb] at e; cases e; exact Nat.le_refl _)

theorem allocE_ok (h : Sim nt w0 N M0 E st a w) {t : TypeId} {o : Oper} {e : Eff} (he : allocE P st.o o.dst t = some e) (ho : o.op = .alloc t) (hd : ∀ t, o.dst = some t → t < nt) : Fine P nt w0 N M0 st a w o e := by
  unfold allocE at he
  split at he
  · rename_i d _ _ _ ze hdst hti
    simp at he; subst he
    obtain ⟨D, j, hD, hj, hk, _, _, hz⟩ := ti_spec hti
    simp only [Option.bind_eq_some_iff] at hz
    obtain ⟨z, hz1, hz2⟩ := hz
    refine ⟨.value (.pointer (some ⟨w.heap.size, 0, none⟩)), w.alloc (.cells z.cells t), .pointer (some ⟨w.heap.size, 0, none⟩), ?_, .inl rfl, oneE E (nid d 0) (.pointer (some ⟨w.heap.size, 0, none⟩)), ?_⟩
    · simp [execOp, ho, Instr.alloc, zeroValue, typeInfo, hj, hz1, newVar, newRow]
    · have o1 := one_alloc (st := st) (E := E) (w := w) (.cells z.cells t) (id := nid d 0) (h' := .pointer (some ⟨w.heap.size, 0, none⟩)) (ob' := .box t (ze.map .t)) rfl
      refine Sim.one h o1 ⟨w.heap.size, z.cells.toList, rfl, by simpa using Go.heap_alloc_new w (.cells z.cells t), ?_, oneCell_cellsT hz2⟩ hd ?_
      · exact TL_AVRs (TR_cellsT hz2)
      · simp only [AVR, upd_same]
        exact ⟨Nat.le_refl _, fun _ => ⟨w.heap.size, rfl, rfl⟩⟩
  · cases he

theorem boxE_ok (h : Sim nt w0 N M0 E st a w) {t : TypeId} {x : Operand} {o : Oper} {e : Eff} (he : boxE st.o o.dst t (ev st.s x) = some e) (ho : o.op = .box t x) (hd : ∀ t, o.dst = some t → t < nt) : Fine P nt w0 N M0 st a w o e := by
  unfold boxE at he
  split at he
  · rename_i d cs hdst hcs
    split at he
    · rename_i hall
      simp at he; subst he
      have hc := cellsOf_ok h (ev_ok h x) hcs
      refine ⟨.value (.pointer (some ⟨w.heap.size, 0, none⟩)), w.alloc (.cells (a.eval x).cells t), .pointer (some ⟨w.heap.size, 0, none⟩), ?_, .inl rfl, oneE E (nid d 0) (.pointer (some ⟨w.heap.size, 0, none⟩)), ?_⟩
      · simp [execOp, ho, Instr.box, newVar, newRow]
      · have o1 := one_alloc (st := st) (E := E) (w := w) (.cells (a.eval x).cells t) (id := nid d 0) (h' := .pointer (some ⟨w.heap.size, 0, none⟩)) (ob' := .box t cs) rfl
        refine Sim.one h o1 ⟨w.heap.size, (a.eval x).cells.toList, rfl, by simpa using Go.heap_alloc_new w (.cells (a.eval x).cells t), AVRs_keep o1.ext (o1.keep N) _ _ hc, fun u hu => ?_⟩ hd ?_
        · obtain ⟨i, hi⟩ := List.getElem?_of_mem hu
          have hlen := AVRs_length hc
          have hlt : i < cs.length := by rw [← hlen]; exact (List.getElem?_eq_some_iff.1 hi).1
          obtain ⟨v, hv, hr⟩ := AVRs_get hc (i := i) (x := cs[i]) (List.getElem?_eq_getElem hlt)
          rw [hi] at hv; cases hv
          exact boxCell_ok h hr (List.all_eq_true.1 hall _ (List.getElem_mem hlt))
        · simp only [AVR, upd_same]
          exact ⟨Nat.le_refl _, fun _ => ⟨w.heap.size, rfl, rfl⟩⟩
    · cases he
  · cases he

/-! ### rows -/
omit [Cst] in
theorem oneCell_TL {M : Nat → Prop} : ∀ {xs : List T} {vs : List Value}, TL w M xs vs → ∀ u ∈ vs, u.oneCell' = true
  | [], _, h, u, hu => by cases h; cases hu
  | x :: xs, _, ⟨v, vs', e, h1, h2⟩, u, hu => by
    subst e
    cases hu with
    | head => exact oneCell_TR h1
    | tail _ hm => exact oneCell_TL h2 u hm
omit [Cst] in
theorem TL_append {M : Nat → Prop} : ∀ {xs ys : List T} {us vs : List Value}, TL w M xs us → TL w M ys vs → TL w M (xs ++ ys) (us ++ vs)
  | [], ys, us, vs, h, h' => by cases h; exact h'
  | x :: xs, ys, us, vs, ⟨v, vs', e, h1, h2⟩, h' => by subst e; exact ⟨v, vs' ++ vs, rfl, h1, TL_append h2 h'⟩
omit [Cst] in
theorem TL_take {M : Nat → Prop} {xs : List T} {us : List Value} (n : Nat) (h : TL w M xs us) : TL w M (xs.take n) (us.take n) := by
  have := AVRs_take n (TL_AVRs (E := fun _ => undef) (O := fun _ => (0, .dead)) h)
  rw [← List.map_take] at this
  exact AVRs_TL this
omit [Cst] in
theorem TL_drop {M : Nat → Prop} {xs : List T} {us : List Value} (n : Nat) (h : TL w M xs us) : TL w M (xs.drop n) (us.drop n) := by
  have := AVRs_drop n (TL_AVRs (E := fun _ => undef) (O := fun _ => (0, .dead)) h)
  rw [← List.map_drop] at this
  exact AVRs_TL this

omit [Cst] in
theorem toList_zeros (z : Array Value) (hz : 0 < z.size) : ∀ n, (madeCells z (n * z.size)).toList = (List.replicate n z.toList).flatten := by
  intro n
  apply List.ext_getElem?
  intro i
  have hlen : ∀ n, ((List.replicate n z.toList).flatten).length = n * z.size := by
    intro n
    simp
  have hgen : ∀ n i, ((List.replicate n z.toList).flatten)[i]? = if i < n * z.size then z[i % z.size]? else none := by
    intro n
    induction n with
    | zero => intro i; simp
    | succ n ih =>
      intro i
      rw [List.replicate_succ, List.flatten_cons, List.getElem?_append]
      split
      · rename_i hlt
        have hlt' : i < z.size := by simpa using hlt
        rw [if_pos (by rw [Nat.succ_mul]; omega), Nat.mod_eq_of_lt hlt']
        simp
      · rename_i hge
        have hge' : z.size ≤ i := by simpa using hge
        rw [ih]
        simp only [Array.length_toList]
        rw [show i % z.size = (i - z.size) % z.size from by rw [← Nat.mod_eq_sub_mod hge']]
        by_cases hh : i < (n + 1) * z.size
        · rw [if_pos (by rw [Nat.succ_mul] at hh; omega), if_pos hh]
        · rw [if_neg (by rw [Nat.succ_mul] at hh; omega), if_neg hh]
  rw [hgen]
  simp only [madeCells, Array.toList_map, Array.toList_range, List.getElem?_map]
  split
  · rename_i hlt
    have hm := Nat.mod_lt i hz
    simp [List.getElem?_range hlt, hm]
  · rename_i hge
    rw [List.getElem?_eq_none (by simpa using hge)]; rfl

omit [Cst] in
theorem TL_zeros {M : Nat → Prop} {ze : List T} {us : List Value} (h : TL w M ze us) : ∀ n, TL w M (zeros ze n) (List.replicate n us).flatten
  | 0 => by simp [zeros, TL]
  | n + 1 => by
    simp only [zeros, List.replicate_succ, List.flatten_cons]
    exact TL_append h (TL_zeros h n)

theorem makeSliceE_ok (h : Sim nt w0 N M0 E st a w) {t : TypeId} {X Y : Operand} {o : Oper} {e : Eff} (he : makeSliceE P st.o o.dst t (ev st.s X) (ev st.s Y) = some e) (ho : o.op = .makeSlice t X Y) (hd : ∀ t, o.dst = some t → t < nt) :
    Fine P nt w0 N M0 st a w o e := by
  have hX := ev_ok h X
  have hY := ev_ok h Y
  unfold makeSliceE at he
  split at he
  · rename_i d e0 _ _ _ l c hdst hti e1 e2
    rw [e1] at hX; rw [e2] at hY
    simp only [AVR, TR] at hX hY
    obtain ⟨D, j, hD, hj, hk, _⟩ := ti_spec hti
    have := tk_slice hk; subst this
    split at he
    · rename_i kk sz by_ ze hte
      obtain ⟨D', i, hD', hi, hk', hs, hby, hz⟩ := ti_spec hte
      simp only at hs hby hz
      simp only [Option.bind_eq_some_iff] at hz
      obtain ⟨z, hz1, hz2⟩ := hz
      split at he
      · rename_i hc
        obtain ⟨c1, c2, c3, c4, c5, c6⟩ := hc
        simp at he; subst he
        have hzl : z.cells.size = sz := by
          have := TL_length (TR_cellsT (w := w) (M := Mu N E st.o) hz2)
          rw [← Array.length_toList, this, c1]
        have hr := run_make (P := P) w t e0 i z hD hi hz1 .i64 .i64 l c c3 c4 (by rw [hby, Int.mul_comm]; omega) (by omega)
        refine ⟨.value (.slice (some ⟨w.heap.size, 0, none⟩) l.toNat c.toNat), w.alloc (.cells (madeCells z.cells (c.toNat * i.size)) e0), _, by simp [execOp, ho, hX, hY, hr], .inl rfl, oneE E (nid d 0) (.slice (some ⟨w.heap.size, 0, none⟩) l.toNat c.toNat), ?_⟩
        have o1 := one_alloc (st := st) (E := E) (w := w) (.cells (madeCells z.cells (c.toNat * i.size)) e0) (id := nid d 0) (h' := .slice (some ⟨w.heap.size, 0, none⟩) l.toNat c.toNat) (ob' := .row false true e0 sz l.toNat (zeros ze l.toNat)) rfl
        have hls : l.toNat ≤ c.toNat := by omega
        have htl := TL_zeros (TR_cellsT (w := w.alloc (.cells (madeCells z.cells (c.toNat * i.size)) e0)) (M := Mu N (oneE E (nid d 0) (.slice (some ⟨w.heap.size, 0, none⟩) l.toNat c.toNat)) (oneO st.o (nid d 0) ((st.o (nid d 0)).1 + 1) (.row false true e0 sz l.toNat (zeros ze l.toNat)))) hz2) l.toNat
        have hcur : (madeCells z.cells (c.toNat * i.size)).toList.take (l.toNat * sz) = (List.replicate l.toNat z.cells.toList).flatten := by
          rw [hs, ← hzl, toList_zeros z.cells (by omega)]
          rw [show c.toNat = l.toNat + (c.toNat - l.toNat) from by omega, ← List.replicate_append_replicate, List.flatten_append]
          rw [List.take_append_of_le_length (by simp), List.take_of_length_le (by simp)]
        refine Sim.one h o1 ⟨_, ⟨?_, .inr ⟨w.heap.size, c.toNat, madeCells z.cells (c.toNat * i.size), rfl, Nat.zero_le _, Go.heap_alloc_new w _, hls, by simp only [maxLen]; omega, by rw [size_madeCells, hs], hcur⟩⟩, htl, fun _ => ⟨_, _, rfl⟩⟩ hd ?_
        · simp [hzl]
        · simp only [AVR, upd_same]
          exact ⟨Nat.le_refl _, fun _ => trivial⟩
      · cases he
    · cases he
  · cases he
end
end Go.AX

namespace Go.AX
open Go Go.RowKit
variable [Cst]

section
variable {P : Program} {nt : Nat} {w0 w w' : World} {N M0 : Nat → Prop} {E : Emb} {st : St} {a : Act}

omit [Cst] in
theorem frz_ver (o : Obs) (ids : List Nat) (id : Nat) : (putO o (frz o ids) id).1 = (o id).1 := by rw [putO_frz]; split <;> simp [fz1_ver]
omit [Cst] in
theorem putO_frz_snoc (o : Obs) (ids : List Nat) (x : Nat × Nat × AOb) : putO o (frz o ids ++ [x]) = upd (putO o (frz o ids)) x.1 x.2 := by rw [putO_append]; rfl

omit [Cst] in
theorem run_buildSlice {t e0 : TypeId} {i : TypeInfo} {z : Value} {sz len : Nat} (hD : P.underlying t = some (.slice e0)) (hi : P.info? e0 = some i) (hz1 : i.zero = some z) (hs : i.size = sz)
    (hle : len * sz ≤ 16777216) {ps : Array (Nat × Value)} {cur : Array Value} (hf : Instr.fill (fun i => some (i * sz, sz)) (madeCells z.cells (len * sz)) ps.toList = some cur) :
    (Instr.buildSlice t len ps).run P w = .ok (.slice (some ⟨w.heap.size, 0, none⟩) len len) (w.alloc (.cells cur e0)) := by
  subst hs
  have hnot : ¬ (2 ^ 24 < len * i.size) := by omega
  simp only [Instr.buildSlice, Sem.run_bind, run_underlying hD, Result.andThen_ok, sizeOf, typeInfo, run_program, hi, Sem.run_pure, gt_iff_lt, hnot, if_false, Sem.run_ite, zeroValue, hz1]
  by_cases hzero : len * i.size = 0
  · have hm : ((Array.range (len * i.size)).map ((#[] : Array Value)[· % (#[] : Array Value).size]!)) = madeCells z.cells (len * i.size) := by rw [hzero]; simp [madeCells]
    simp only [hzero, if_true]
    rw [hzero] at hm hf
    rw [hm, hf]
    simp [newRow]
  · simp only [hzero, if_false]
    rw [show ((Array.range (len * i.size)).map (z.cells[· % z.cells.size]!)) = madeCells z.cells (len * i.size) from rfl, hf]
    simp [newRow]

theorem buildSliceE_ok (h : Sim nt w0 N M0 E st a w) {t : TypeId} {len : Nat} {ps : Array (Nat × Operand)} {o : Oper} {e : Eff} (he : buildSliceE P st.o o.dst t len (evParts st.s ps) = some e) (ho : o.op = .buildSlice t len ps) (hd : ∀ t, o.dst = some t → t < nt) :
    Fine P nt w0 N M0 st a w o e := by
  unfold buildSliceE at he
  split at he
  · rename_i d e0 _ _ _ hdst hti
    obtain ⟨D, j, hD, hj, hk, _⟩ := ti_spec hti
    have := tk_slice hk; subst this
    split at he
    · rename_i kk sz by_ ze hte
      obtain ⟨D', i, hD', hi, hk', hs, hby, hz⟩ := ti_spec hte
      simp only at hs hby hz
      simp only [Option.bind_eq_some_iff] at hz
      obtain ⟨z, hz1, hz2⟩ := hz
      split at he
      · rename_i hc
        obtain ⟨c1, c2, c3⟩ := hc
        split at he
        · rename_i cs hcs
          split at he
          · rename_i xs hxs
            simp at he; subst he
            have hzl : z.cells.size = sz := by
              have := TL_length (TR_cellsT (w := w) (M := Mu N E st.o) hz2)
              rw [← Array.length_toList, this, c2]
            have hmade : (madeCells z.cells (len * sz)).toList = (List.replicate len z.cells.toList).flatten := by rw [← hzl]; exact toList_zeros z.cells (by omega) len
            have hz0 := TL_AVRs (E := E) (O := st.o) (TL_zeros (TR_cellsT (w := w) (M := Mu N E st.o) hz2) len)
            rw [← hmade] at hz0
            obtain ⟨us', h1, h2⟩ := lay_ok h _ ps.toList _ _ _ hz0 hcs
            have hf := h.frz (cs.flatMap refs1)
            have htl := snaps_frz h (cs.flatMap refs1) h2 hxs (fun id hid => hid)
            have hlen : us'.length = len * sz := by
              have l1 := TL_length htl
              have l2 : ∀ (xs : List AV) (ys : List T), snaps st.o xs = some ys → ys.length = xs.length := by
                intro xs
                induction xs with
                | nil => intro ys h; simp [snaps] at h; subst h; rfl
                | cons x xs ih =>
                  intro ys h
                  simp only [snaps] at h
                  split at h
                  · rename_i h1 h2; simp at h; subst h; simp [ih _ h2]
                  · cases h
              have l3 : ∀ (ps : List (Nat × AV)) (cells r : List AV), lay st.o (fun i => some (i * sz, sz)) cells ps = some r → r.length = cells.length := by
                intro ps
                induction ps with
                | nil => intro cells r h; simp [lay] at h; rw [h]
                | cons p ps ih =>
                  obtain ⟨i, v⟩ := p
                  intro cells r h
                  simp only [lay] at h
                  split at h
                  · rename_i hp _
                    simp at hp
                    split at h
                    · rename_i hle
                      rw [ih _ _ h]; simp; omega
                    · cases h
                  · cases h
              have l4 : (zeros ze len).length = len * sz := by
                have : ∀ n, (zeros ze n).length = n * ze.length := by
                  intro n
                  induction n with
                  | zero => simp [zeros]
                  | succ n ih => simp [zeros, ih, Nat.succ_mul, Nat.add_comm]
                rw [this, c2]
              rw [l1, l2 _ _ hxs, l3 _ _ _ hcs]; simp [l4]
            have hrun : (execOp a.eval o).run P w = .ok (.value (.slice (some ⟨w.heap.size, 0, none⟩) len len)) (w.alloc (.cells us'.toArray e0)) := by
              have hfill : Instr.fill (fun i => some (i * sz, sz)) (madeCells z.cells (len * sz)) (ps.map fun (i, x) => (i, a.eval x)).toList = some us'.toArray := by
                rw [← h1]; simp
              have := run_buildSlice (P := P) (w := w) hD hi hz1 hs c1 hfill
              simp only [execOp, ho, Sem.run_bind]
              rw [this]; rfl
            refine ⟨_, _, _, hrun, .inl rfl, oneE E (nid d 0) (.slice (some ⟨w.heap.size, 0, none⟩) len len), ?_⟩
            have o1 := one_alloc (st := ⟨st.s, putO st.o (AX.frz st.o (cs.flatMap refs1))⟩) (E := E) (w := w) (.cells us'.toArray e0) (id := nid d 0) (h' := .slice (some ⟨w.heap.size, 0, none⟩) len len) (ob' := .row false true e0 sz len xs) rfl
            have := Sim.one hf o1 ⟨us', ⟨by rw [hlen], .inr ⟨w.heap.size, len, us'.toArray, rfl, Nat.zero_le _, Go.heap_alloc_new w _, Nat.le_refl _, by simp only [maxLen]; have : len ≤ len * sz := Nat.le_mul_of_pos_right _ c3; omega, by simpa using hlen, by simp [← hlen]⟩⟩, TL_keep (o1.keep N) _ _ htl, fun _ => ⟨_, _, rfl⟩⟩ hd
              (v := .slice (some ⟨w.heap.size, 0, none⟩) len len) (av := .own (nid d 0) ((st.o (nid d 0)).1 + 1)) (by
                simp only [AVR, upd_same, frz_ver]
                exact ⟨Nat.le_refl _, fun _ => trivial⟩)
            simp only [frz_ver] at this
            simpa only [St.app, putO_frz_snoc, newOb] using this
          · cases he
        · cases he
      · cases he
    · cases he
  · cases he

/-! ### stores -/
omit [Cst] in
theorem size_setRow (w : World) (g : Nat) (cs : Array Value) : (w.setRow g cs).heap.size = w.heap.size := by simp [World.setRow]

omit [Cst] in
theorem one_set {id g : Nat} {ob' : AOb} (hg : blk (E id) = some g) (hl : (st.o id).2.live = true) (cs : Array Value) : One st E w (w.setRow g cs) id (st.o id).1 (E id) ob' where
  ver := Nat.le_refl _
  same _ := rfl
  size := by rw [size_setRow]; exact Nat.le_refl _
  strm := ⟨rfl, rfl, rfl⟩
  block b _ hn := setRow_other w g b cs (fun e => hn ⟨hl, by rw [e]; exact hg⟩)
  new _ g' e := .inl ⟨e, AOb.live_nd hl, fun _ => hl⟩

omit [Cst] in
theorem run_storeVar {t : TypeId} {i : TI} (hi : ti P t = some i) {v : Value} (hv : v.cells.toList.length = i.sz) {g off : Nat} {bt : TypeId} {cur : Array Value} (hg : w.heap[g]? = some (.cells cur bt (0, 0)))
    (hle : off + i.sz ≤ cur.size) (h1 : ∀ u ∈ v.cells.toList, u.oneCell' = true) :
    (storeVar t ⟨g, off, none⟩ v).run P w = .ok () (w.setRow g (cur.toList.take off ++ v.cells.toList ++ cur.toList.drop (off + i.sz)).toArray) := by
  obtain ⟨D, j, hD, hj, hk, hs, hby, hz⟩ := ti_spec hi
  have hst := run_storeCells_at P g off bt v.cells.toList 0 cur w hg (by simpa [hv] using hle) h1
  have hsz : v.cells.size = j.size := by rw [← Array.length_toList, hv, hs]
  simp only [storeVar, Sem.run_bind, sizeOf, typeInfo, run_program, Result.andThen_ok, hj, Sem.run_pure, hsz, ne_eq, not_true_eq_false, if_false]
  rw [hst]
  simp [hv]

theorem oneCell_boxes (h : Sim nt w0 N M0 E st a w) {xs : List AV} {vs : List Value} (hv : AVRs E st.o w (Mu N E st.o) xs vs) (hall : xs.all (boxCell st.o) = true) : ∀ u ∈ vs, u.oneCell' = true := by
  intro u hu
  obtain ⟨i, hi⟩ := List.getElem?_of_mem hu
  have hlen := AVRs_length hv
  have hlt : i < xs.length := by rw [← hlen]; exact (List.getElem?_eq_some_iff.1 hi).1
  obtain ⟨v, hv', hr⟩ := AVRs_get hv (i := i) (x := xs[i]) (List.getElem?_eq_getElem hlt)
  rw [hi] at hv'; cases hv'
  exact boxCell_ok h hr (List.all_eq_true.1 hall _ (List.getElem_mem hlt))

theorem storeE_ok (h : Sim nt w0 N M0 E st a w) {t : TypeId} {X Y : Operand} {o : Oper} {e : Eff} (he : storeE P st.o t (ev st.s X) (ev st.s Y) = some e) (ho : o.op = .store t X Y) (hdst : o.dst = none) :
    Fine P nt w0 N M0 st a w o e := by
  have hX := ev_ok h X
  have hY := ev_ok h Y
  unfold storeE at he
  split at he
  · rename_i i xs id ver off hti hxs e1
    rw [e1] at hX
    simp only [AVR] at hX
    have hc := cellsOf_ok h hY hxs
    have hcl := AVRs_length hc
    split at he
    · rename_i hv
      obtain ⟨g, hg, e2⟩ := hX.2 hv.1
      have hor := h.ob id
      split at he
      · rename_i bt cs hob
        split at he
        · rename_i hcond
          simp only [Option.some.injEq] at he; subst he
          rw [hob] at hor
          obtain ⟨g', us, e3, hh, h2, h3⟩ := hor
          rw [e3] at hg; simp [blk] at hg; subst hg
          have hul := AVRs_length h2
          have hone := oneCell_boxes h hc hcond.2
          have hr := run_storeVar (P := P) (w := w) hti (v := a.eval Y) (off := off) (by rw [hcl, hv.2]) hh (by simp [hul]; exact hcond.1) hone
          refine ⟨.skip, _, undef, by simp only [execOp, ho, Instr.storeAt, e2, Instr.sureAddr, Sem.run_bind, Sem.run_pure, Result.andThen_ok, hr]; rfl, .inr ⟨rfl, rfl⟩, oneE E id (E id), ?_⟩
          have o1 := one_set (st := st) (E := E) (w := w) (id := id) (g := g') (ob' := .box bt (cs.take off ++ xs ++ cs.drop (off + i.sz))) (by rw [e3]; rfl) (by rw [hob]; rfl) (us.toArray.toList.take off ++ (a.eval Y).cells.toList ++ us.toArray.toList.drop (off + i.sz)).toArray
          have hk := o1.keep N
          have := Sim.one h o1 ⟨g', us.take off ++ (a.eval Y).cells.toList ++ us.drop (off + i.sz), e3, by simpa using setRow_heap w g' us.toArray _ bt (0, 0) hh, ?_, ?_⟩ (d := o.dst) (by rw [hdst]; intro t e; cases e) (v := undef) (av := .non) (by simp [AVR])
          · rw [hv.1] at this
            simpa [St.app, putO] using this
          · exact AVRs_keep o1.ext hk _ _ (AVRs_append (AVRs_append (AVRs_take off h2) hc) (AVRs_drop _ h2))
          · intro u hu
            simp only [List.mem_append] at hu
            rcases hu with (hu | hu) | hu
            · exact h3 u (List.mem_of_mem_take hu)
            · exact hone u hu
            · exact h3 u (List.mem_of_mem_drop hu)
        · cases he
      · rename_i nn e0 sz n cs hob
        split at he
        · rename_i hcond
          split at he
          · rename_i ys hys
            simp only [Option.some.injEq] at he; subst he
            rw [hob] at hor
            obtain ⟨us, h1, h2, h3⟩ := hor
            have hf := h.frz (xs.flatMap refs1)
            have htl := snaps_frz h (xs.flatMap refs1) hc hys (fun id hid => hid)
            rcases h1.2 with ⟨e3, _⟩ | ⟨g', cap, cur, e3, _, hh, hn, hcm, hcs, htake⟩
            · rw [e3] at hg; simp [blk] at hg
            · rw [e3] at hg; simp [blk] at hg; subst hg
              have hul := TL_length h2
              have hcurle : us.length ≤ cur.size := by rw [← htake]; simp; omega
              have hone := oneCell_TL htl
              have hr := run_storeVar (P := P) (w := w) hti (v := a.eval Y) (off := off) (by rw [hcl, hv.2]) hh (by omega) hone
              refine ⟨.skip, _, undef, by simp only [execOp, ho, Instr.storeAt, e2, Instr.sureAddr, Sem.run_bind, Sem.run_pure, Result.andThen_ok, hr]; rfl, .inr ⟨rfl, rfl⟩, oneE E id (E id), ?_⟩
              have hnid : putO st.o (AX.frz st.o (xs.flatMap refs1)) id = st.o id := by rw [putO_frz, if_neg hcond.2]
              have o1 := one_set (st := ⟨st.s, putO st.o (AX.frz st.o (xs.flatMap refs1))⟩) (E := E) (w := w) (id := id) (g := g') (ob' := .row false nn e0 sz n (cs.take off ++ ys ++ cs.drop (off + i.sz))) (by rw [e3]; rfl) (by simp only [hnid, hob]; rfl) (cur.toList.take off ++ (a.eval Y).cells.toList ++ cur.toList.drop (off + i.sz)).toArray
              have hk := o1.keep N
              have hC : cur.toList = us ++ cur.toList.drop (n * sz) := by rw [← htake]; exact (List.take_append_drop _ _).symm
              have hlenu : us.length = n * sz := h1.1
              have hoff : off + i.sz ≤ us.length := by rw [hul]; exact hcond.1
              have hnew : cur.toList.take off ++ (a.eval Y).cells.toList ++ cur.toList.drop (off + i.sz) = (us.take off ++ (a.eval Y).cells.toList ++ us.drop (off + i.sz)) ++ cur.toList.drop (n * sz) := by
                conv => lhs; rw [hC]
                rw [List.take_append_of_le_length (by omega), List.drop_append_of_le_length hoff]
                simp
              have hnl : (us.take off ++ (a.eval Y).cells.toList ++ us.drop (off + i.sz)).length = n * sz := by
                simp only [List.length_append, List.length_take, List.length_drop, hcl, hv.2]; omega
              have h2' : TL w (Mu N E (putO st.o (AX.frz st.o (xs.flatMap refs1)))) cs us :=
                TL_keep ⟨Nat.le_refl _, fun _ _ _ => rfl, fun b _ hM => hM.imp (fun h => h) (fun ⟨i, h1, h2⟩ => ⟨i, by rw [putO_frz] at h1; split at h1; exact fz1_live h1; exact h1, h2⟩)⟩ _ _ h2
              have := Sim.one hf o1 ⟨us.take off ++ (a.eval Y).cells.toList ++ us.drop (off + i.sz), ⟨hnl, .inr ⟨g', cap, _, e3, Nat.zero_le _, setRow_heap w g' cur _ e0 (0, 0) hh, hn, hcm, ?_, ?_⟩⟩, ?_, h3⟩ (d := o.dst) (by rw [hdst]; intro t e; cases e) (v := undef) (av := .non) (by simp [AVR])
              · simp only [hnid, hv.1] at this
                simpa only [St.app, putO_frz_snoc] using this
              · simp only [List.size_toArray]; rw [hnew, List.length_append, hnl, List.length_drop, Array.length_toList, hcs]
                have := Nat.mul_le_mul_right sz hn
                omega
              · simp only [hnew]
                rw [← hnl]; exact List.take_left
              · exact TL_keep hk _ _ (TL_append (TL_append (TL_take off h2') htl) (TL_drop _ h2'))
          · cases he
        · cases he
      · cases he
    · cases he
  · cases he
end
end Go.AX

namespace Go.AX
open Go Go.RowKit
variable [Cst]

section
variable {P : Program} {nt : Nat} {w0 w w' : World} {N M0 : Nat → Prop} {E : Emb} {st : St} {a : Act}

omit [Cst] in
theorem AVRs_map_TL {M : Nat → Prop} : ∀ {ys : List T} {us : List Value}, us.length = ys.length → (∀ (j : Nat) (y : T), ys[j]? = some y → ∃ u, us[j]? = some u ∧ TR w M y u) → TL w M ys us := by
  intro ys us hl h
  refine AVRs_TL (E := fun _ => undef) (O := fun _ => (0, .dead)) (AVRs_of (by simpa using hl) fun i x hx => ?_)
  simp only [List.getElem?_map, Option.map_eq_some_iff] at hx
  obtain ⟨y, hy, rfl⟩ := hx
  obtain ⟨u, hu, hr⟩ := h i y hy
  exact ⟨u, hu, by simpa [AVR] using hr⟩

omit [Cst] in
theorem list_of_TRs {M : Nat → Prop} {ad : Addr} {ys : List T} (h : TRs w M ad 0 ys) : ∃ us : List Value, (∀ (j : Nat) (u : Value), us[j]? = some u → w.cell? (ad.add j) = some u) ∧ TL w M ys us := by
  obtain ⟨us, h1, h2, h3⟩ := list_of_cells (w := w) (p := ad) (R := fun x u => ∃ y, x = AV.t y ∧ TR w M y u) (ys.map .t) 0 (fun j x hx => by
    simp only [List.getElem?_map, Option.map_eq_some_iff] at hx
    obtain ⟨y, hy, rfl⟩ := hx
    obtain ⟨v, hv, hr⟩ := TRs_get h hy
    exact ⟨v, hv, y, rfl, hr⟩)
  refine ⟨us, fun j u hu => by simpa using h2 j u hu, AVRs_map_TL (by simpa using h1) fun j y hy => ?_⟩
  obtain ⟨u, hu, y', e, hr⟩ := h3 j (.t y) (by simp [hy])
  cases e
  exact ⟨u, hu, hr⟩

/-- What a source of cells stands for. -/
theorem src_ok (h : Sim nt w0 N M0 E st a w) {x : AV} {v : Value} (hv : AVR E st.o w (Mu N E st.o) x v) {m : Nat} {ys : List T} (hs : srcE st.o x = some (m, ys)) :
    ∃ A c news, v = .slice A m c ∧ TL w (Mu N E st.o) ys news ∧ (A = none → c = 0 ∧ m = 0) ∧ ∀ ad, A = some ad → ∀ (j : Nat) (u : Value), news[j]? = some u → w.cell? (ad.add j) = some u := by
  unfold srcE at hs
  cases x with
  | t y =>
    simp only [snap] at hs
    simp only [AVR] at hv
    split at hs
    · rename_i e; simp at e hs; subst e; obtain ⟨rfl, rfl⟩ := hs
      simp only [TR] at hv
      exact ⟨none, 0, [], hv, rfl, fun _ => ⟨rfl, rfl⟩, fun ad e => by cases e⟩
    · rename_i e; simp at e hs; subst e; obtain ⟨rfl, rfl⟩ := hs
      simp only [TR] at hv
      obtain ⟨A, c, e2, _, e3⟩ := hv
      exact ⟨A, c, [], e2, rfl, fun e => ⟨e3 e, rfl⟩, fun ad _ j u hu => by simp at hu⟩
    · rename_i n cs e; simp at e hs; subst e; obtain ⟨rfl, rfl⟩ := hs
      simp only [TR] at hv
      obtain ⟨ad, c, e2, _, _, h1, h2, h3⟩ := hv
      obtain ⟨us, h4, h5⟩ := list_of_TRs h3
      exact ⟨some ad, c, us, e2, h5, (fun e => by cases e), (fun ad' e => by cases e; exact h4)⟩
    · cases hs
  | own id ver =>
    have key : ∀ y, snap st.o (.own id ver) = some y → ∃ fz nn e sz n cs, (st.o id).1 = ver ∧ (st.o id).2 = .row fz nn e sz n cs ∧ y = if n = 0 ∧ nn = false then .em else .sl n cs := by
      intro y hy
      simp only [snap] at hy
      split at hy
      · rename_i hver
        split at hy
        · rename_i hob; simp only [Option.some.injEq] at hy; exact ⟨_, _, _, _, _, _, hver, hob, hy.symm⟩
        · cases hy
      · cases hy
    cases hsn : snap st.o (.own id ver) with
    | none => rw [hsn] at hs; cases hs
    | some y =>
      obtain ⟨fz, nn, e, sz, n, cs, hver, hob, hy⟩ := key y hsn
      have hor := h.ob id
      rw [hob] at hor
      obtain ⟨us, h1, h2, h3⟩ := hor
      simp only [AVR] at hv
      have e1 := hv.2 hver
      rw [hsn] at hs
      have hn : m = n ∧ (ys = cs ∨ (n = 0 ∧ ys = [])) := by
        rw [hy] at hs
        split at hs <;> rename_i ee <;> split at ee <;> simp at ee hs
        · rename_i hz; exact ⟨by rw [hz.1]; exact hs.1.symm, .inr ⟨hz.1, hs.2⟩⟩
        · exact ⟨by rw [ee.1]; exact hs.1.symm, .inl (by rw [ee.2]; exact hs.2.symm)⟩
      obtain ⟨rfl, hn2⟩ := hn
      rcases h1.2 with ⟨e2, hz⟩ | ⟨g, cap, cur, e2, hb, hg, hnc, hcm, hcs, ht⟩
      · subst hz
        have : us = [] := by have := h1.1; simpa using this
        subst this
        have hc : cs = [] := by have := TL_length h2; simpa using this.symm
        have hys : ys = [] := by rcases hn2 with h | h; rw [h, hc]; exact h.2
        exact ⟨none, 0, [], by rw [e1, e2], by rw [hys]; rfl, (fun _ => ⟨rfl, rfl⟩), (fun ad e => by cases e)⟩
      · refine ⟨some ⟨g, 0, none⟩, cap, us.take ys.length, by rw [e1, e2], ?_, (fun e => by cases e), fun ad e j u hu => ?_⟩
        · have := TL_take ys.length h2
          rcases hn2 with h | ⟨_, h⟩
          · rw [h] at this ⊢; simpa using this
          · rw [h]; simp [TL]
        · cases e
          have hu' : us[j]? = some u := by
            rw [List.getElem?_take] at hu
            split at hu
            · exact hu
            · cases hu
          exact h1.cells (g := g) (by rw [e2]; rfl) j u hu'
  | _ => simp [snap] at hs

omit [Cst] in
theorem own_blk {v : Value} {A : Option Addr} {n c : Nat} (h : v = .slice A n c) : v.ownBlock = blk v := by subst h; cases A <;> rfl

omit [Cst] in
theorem ownsRow_slice {base e sz n : Nat} {v : Value} {us : List Value} (h : w.ownsRow base e sz v n us) : ∃ A m c, v = .slice A m c := by
  rcases h.2 with ⟨e, _⟩ | ⟨g, cap, cur, e, _⟩
  · exact ⟨_, _, _, e⟩
  · exact ⟨_, _, _, e⟩

omit [Cst] in
theorem append_run {t ty e0 : TypeId} {i : TypeInfo} {z : Value} {sz by_ : Nat} (hD : P.underlying t = some (.slice e0)) (hi : P.info? e0 = some i) (hz1 : i.zero = some z) (hs : i.size = sz) (hby : i.bytes = by_) (hzl : z.cells.size = sz) (hsz : 0 < sz)
    {s : Value} {n : Nat} {us : List Value} (hown : w.ownsRow 0 e0 sz s n us) {A : Option Addr} {m c : Nat} {news : List Value} (hl : news.length = m * sz) (hA : A = none → c = 0 ∧ m = 0)
    (hnews : ∀ ad, A = some ad → ∀ (j : Nat) (u : Value), news[j]? = some u → w.cell? (ad.add j) = some u) (h1 : ∀ u ∈ news, u.oneCell' = true) (hb : (n + m) * by_ ≤ 140737488355328) (h63 : n + m ≤ 140737488355328) :
    ∃ v w', (Builtin.append_ #[t, t] ty #[s, .slice A m c]).run P w = .ok v w' ∧ w'.ownsRow 0 e0 sz v (n + m) (us ++ news) ∧ w.grownBy w' (blk s) ∧ (v = .slice none 0 0 ↔ s = .slice none 0 0 ∧ m = 0) ∧ (blk v = blk s ∨ blk v = some w.heap.size) := by
  obtain ⟨A0, n0, c0, es⟩ := ownsRow_slice hown
  cases A with
  | none =>
    obtain ⟨rfl, rfl⟩ := hA rfl
    have hn0 : news = [] := by simpa using hl
    subst hn0
    refine ⟨s, w, run_append_owned_none w 0 t ty e0 i sz hD hi s n us hown, by simpa using hown, ⟨rfl, rfl, rfl, Nat.le_refl _, fun _ _ _ => rfl⟩, by simp, .inl rfl⟩
  | some ad =>
    obtain ⟨v, w', hr, h2, h3, h4, h5⟩ := run_append_own_at (P := P) w 0 t ty e0 i z sz by_ hD hi hz1 hs hby hzl hsz s n us hown ad m c news hl (hnews ad rfl) h1 (by simp only [maxLen]; omega) hb (Nat.zero_le _)
    obtain ⟨A1, n1, c1, ev⟩ := ownsRow_slice h2
    refine ⟨v, w', hr, h2, by rw [← own_blk es]; exact h3, h4, by rw [← own_blk es, ← own_blk ev]; exact h5⟩

theorem appendE_ok (h : Sim nt w0 N M0 E st a w) {d : Option Nat} {t t' ty : TypeId} {X Y : Operand} {e : Eff} (he : appendE P st.o d t t' (ev st.s X) (ev st.s Y) = some e) (hd : ∀ t, d = some t → t < nt) :
    ∃ v w' E', (Builtin.append_ #[t, t'] ty #[a.eval X, a.eval Y]).run P w = .ok v w' ∧ Sim nt w0 N M0 E' (st.app d e) (a.put d v) w' := by
  have hX := ev_ok h X
  have hY := ev_ok h Y
  unfold appendE at he
  split at he
  · rename_i d e0 _ _ _ hti
    obtain ⟨D, j, hD, hj, hk, _⟩ := ti_spec hti
    have := tk_slice hk; subst this
    split at he
    · rename_i htt; subst htt
      split at he
      · rename_i kk sz by_ ze hte
        obtain ⟨D', i, hD', hi, hk', hs, hby, hz⟩ := ti_spec hte
        simp only at hs hby hz
        simp only [Option.bind_eq_some_iff] at hz
        obtain ⟨z, hz1, hz2⟩ := hz
        split at he
        · rename_i m ys hsrc
          split at he
          · rename_i hc
            obtain ⟨c1, c2, c3⟩ := hc
            have hzl : z.cells.size = sz := by
              have := TL_length (TR_cellsT (w := w) (M := Mu N E st.o) hz2)
              rw [← Array.length_toList, this, c1]
            obtain ⟨A, c, news, eY, htl, hA, hnews⟩ := src_ok h hY hsrc
            have hnl : news.length = m * sz := by rw [TL_length htl, c3]
            split at he
            · rename_i id ver e1
              split at he
              · rename_i hcur
                split at he
                · rename_i nn e' sz' n cs hob
                  split at he
                  · rename_i hcond
                    obtain ⟨rfl, rfl, hb, h63⟩ := hcond
                    simp only [Option.some.injEq] at he; subst he
                    rw [e1] at hX
                    simp only [AVR] at hX
                    have eX := hX.2 hcur.1
                    have hor := h.ob id
                    rw [hob] at hor
                    obtain ⟨us, h1, h2, h3⟩ := hor
                    obtain ⟨v, w', hr, g1, g2, g3, g4⟩ := append_run (P := P) (w := w) (ty := ty) hD hi hz1 hs hby hzl c2 h1 hnl hA hnews (oneCell_TL htl) hb h63
                    have hlive : (st.o id).2.live = true := by rw [hob]; rfl
                    have o1 := one_grown (st := st) (E := E) (id := id) (h' := v) (ob' := .row false (nn || decide (0 < m)) e' sz' (n + m) (cs ++ ys)) g2 (fun _ _ => hlive) (fun g e => by
                      rcases g4 with h | h
                      · exact .inl (by rw [← h]; exact e)
                      · rw [h] at e; cases e; exact .inr (Nat.le_refl _))
                    refine ⟨v, w', oneE E id v, by rw [eX, eY]; exact hr, ?_⟩
                    have := Sim.one h o1 (d := some d) ⟨us ++ news, g1, TL_append (TL_keep (o1.keep N) _ _ h2) (TL_keep (o1.keep N) _ _ htl), fun hnn => ?_⟩ hd (v := v) (av := .own id (ver + 1)) (by
                      simp only [AVR, upd_same, hcur.1]
                      exact ⟨Nat.le_refl _, fun _ => trivial⟩)
                    · rw [hcur.1] at this
                      exact this
                    · have hne : v ≠ .slice none 0 0 := by
                        intro e
                        have := g3.1 e
                        rcases Bool.or_eq_true_iff.1 hnn with hh | hh
                        · obtain ⟨g, cap, e5⟩ := h3 hh
                          rw [e5] at this; simp at this
                        · have : 0 < m := by simpa using hh
                          omega
                      rcases g1.2 with ⟨e5, _⟩ | ⟨g, cap, cur, e5, _⟩
                      · exact (hne e5).elim
                      · exact ⟨g, cap, e5⟩
                  · cases he
                · cases he
              · cases he
            · rename_i e1
              split at he
              · rename_i hcond
                simp only [Option.some.injEq] at he; subst he
                rw [e1] at hX
                simp only [AVR, TR] at hX
                obtain ⟨v, w', hr, g1, g2, g3, g4⟩ := append_run (P := P) (w := w) (ty := ty) hD hi hz1 hs hby hzl c2 (World.ownsRow_nil w 0 e0 sz) hnl hA hnews (oneCell_TL htl) (by simpa using hcond.1) (by simpa using hcond.2)
                have o1 : One st E w w' (nid d 0) ((st.o (nid d 0)).1 + 1) v (.row false (decide (0 < m)) e0 sz m ys) :=
                  one_new g2.size ⟨g2.os, g2.tape, g2.output⟩ (fun b hb => g2.block b hb (by simp [blk])) (fun g e => by
                    rcases g4 with h | h
                    · rw [h] at e; simp [blk] at e
                    · rw [h] at e; cases e; exact Nat.le_refl _)
                refine ⟨v, w', oneE E (nid d 0) v, by rw [hX, eY]; exact hr, ?_⟩
                have g1' : w'.ownsRow 0 e0 sz v m news := by simpa using g1
                refine Sim.one h o1 (d := some d) ⟨news, g1', TL_keep (o1.keep N) _ _ htl, fun hnn => ?_⟩ hd (v := v) (av := .own (nid d 0) ((st.o (nid d 0)).1 + 1)) (by
                  simp only [AVR, upd_same]
                  exact ⟨Nat.le_refl _, fun _ => trivial⟩)
                have hm : 0 < m := by simpa using hnn
                rcases g1'.2 with ⟨e5, hz0⟩ | ⟨g, cap, cur, e5, _⟩
                · omega
                · exact ⟨g, cap, e5⟩
              · cases he
            · cases he
          · cases he
        · cases he
      · cases he
    · cases he
  · cases he

omit [Cst] in
theorem TRs_take {M : Nat → Prop} {ad : Addr} : ∀ {cs : List T} {i : Nat} (n : Nat), TRs w M ad i cs → TRs w M ad i (cs.take n)
  | [], i, n, _ => by simp [TRs]
  | c :: cs, i, 0, _ => by simp [TRs]
  | c :: cs, i, n + 1, h => by
    simp only [TRs] at h
    simp only [List.take_succ_cons, TRs]
    exact ⟨h.1, TRs_take n h.2⟩

theorem bound_run {X : Option Operand} {d b : Int} (h : Sim nt w0 N M0 E st a w) (hb : boundE (X.map (ev st.s)) d = some b) :
    (X = none ∧ b = d) ∨ ∃ x k, X = some x ∧ a.eval x = .int k b := by
  cases X with
  | none => simp [boundE] at hb; exact .inl ⟨rfl, hb.symm⟩
  | some x =>
    have hx := ev_ok h x
    simp only [Option.map_some, boundE] at hb
    split at hb
    · rename_i e; cases e
    · rename_i k i e
      simp at hb; subst hb
      simp only [Option.some.injEq] at e
      rw [e] at hx; simp only [AVR, TR] at hx
      exact .inr ⟨x, k, rfl, hx⟩
    · cases hb

theorem run_bounds {isSlice : Bool} {len cap : Nat} {X Y : Option Operand} {l r : Int} (h : Sim nt w0 N M0 E st a w) (hl : boundE (X.map (ev st.s)) 0 = some l) (hr : boundE (Y.map (ev st.s)) len = some r)
    (h0 : 0 ≤ l) (h1 : l ≤ r) (h2 : r ≤ len) (h3 : len ≤ cap) : (Instr.sliceBounds isSlice len cap (X.map a.eval) (Y.map a.eval) none).run P w = .ok (l.toNat, r.toNat, cap) w := by
  rcases bound_run h hl with ⟨rfl, rfl⟩ | ⟨x, k, rfl, ex⟩ <;> rcases bound_run h hr with ⟨rfl, rfl⟩ | ⟨y, k', rfl, ey⟩
  · simp [Instr.sliceBounds]
  · simp only [Instr.sliceBounds, Option.map_none, Option.map_some, ey, Sem.run_bind, Sem.run_pure, Result.andThen_ok]
    rw [run_sliceBound w k' r cap _ (by omega) (by omega)]
    simp
  · have e1 : (Instr.sliceBound (.int k l) len .sliceB).run P w = .ok l.toNat w := run_sliceBound w k l len _ h0 (by omega)
    simp [Instr.sliceBounds, ex, e1]
  · simp only [Instr.sliceBounds, Option.map_some, ex, ey, Sem.run_bind, Sem.run_pure, Result.andThen_ok]
    rw [run_sliceBound w k' r cap _ (by omega) (by omega)]
    simp only [Result.andThen_ok, Option.isSome_none, Bool.false_eq_true, if_false]
    rw [run_sliceBound w k l _ _ h0 (by omega)]
    simp

theorem sliceE_ok (h : Sim nt w0 N M0 E st a w) {t : TypeId} {X : Operand} {lo hi : Option Operand} {o : Oper} {e : Eff} (he : sliceE P st.o t (ev st.s X) (lo.map (ev st.s)) (hi.map (ev st.s)) = some e) (ho : o.op = .slice t X lo hi none) (hd : ∀ t, o.dst = some t → t < nt) :
    Fine P nt w0 N M0 st a w o e := by
  have hX := ev_ok h X
  unfold sliceE at he
  split at he
  · rename_i _ _ _ hti
    obtain ⟨D, j, hD, hj, hk, _⟩ := ti_spec hti
    have := tk_str hk; subst this
    split at he
    · rename_i s e1
      rw [e1] at hX; simp only [AVR, TR] at hX
      split at he
      · rename_i l r hl hr
        split at he
        · rename_i hc
          simp only [Option.some.injEq] at he; subst he
          have hb := run_bounds (P := P) (isSlice := false) (cap := s.size) h hl hr hc.1 hc.2.1 hc.2.2 (Nat.le_refl _)
          refine fine_of_yields h hd ⟨rfl, .string (s.extract l.toNat r.toNat), ?_, by simp [AVR, TR]⟩
          simp [execOp, ho, Instr.sliceAt, Instr.slice, run_underlying hD, hX, hb]
        · cases he
      · cases he
    · cases he
  · rename_i e0 _ _ _ hti
    obtain ⟨D, j, hD, hj, hk, _⟩ := ti_spec hti
    have := tk_slice hk; subst this
    split at he
    · rename_i kk sz by_ ze hte
      obtain ⟨D', i, hD', hi', _, hs, _⟩ := ti_spec hte
      simp only at hs
      split at he
      · rename_i n cs hsn
        split at he
        · rename_i l r hl hr
          split at he
          · rename_i hc
            simp only [Option.some.injEq] at he; subst he
            have hf := h.frz (refs1 (ev st.s X))
            have hT := snap_frz h (refs1 (ev st.s X)) hX hsn (fun id hid => hid)
            simp only [TR] at hT
            obtain ⟨ad, c, e1, h1, h2, h3, h4, h5⟩ := hT
            have hb := run_bounds (P := P) (isSlice := true) (cap := c) h hl hr hc.1 hc.2.1 hc.2.2.1 h1
            have hrun : (execOp a.eval o).run P w = .ok (.value (.slice (if c = l.toNat then some ad else some (ad.add (l.toNat * sz))) (r.toNat - l.toNat) (c - l.toNat))) w := by
              simp [execOp, ho, Instr.sliceAt, Instr.slice, run_underlying hD, e1, hb, sizeOf, typeInfo, hi', hs]
            refine ⟨_, w, _, hrun, .inl rfl, E, ?_⟩
            refine hf.pure hd ?_
            simp only [AVR, TR]
            refine ⟨if c = l.toNat then ad else ad.add (l.toNat * sz), c - l.toNat, by split <;> rfl, by omega, by omega, ?_, ?_, ?_⟩
            · split
              · exact h3
              · rw [add_block]; exact h3
            · split
              · exact h4
              · rw [add_block]; exact h4
            · split
              · rename_i hcl
                have : r.toNat - l.toNat = 0 := by omega
                rw [this]; simp [TRs]
              · refine TRs_shift (add_add ad _) (i := 0) (TRs_take _ ?_)
                have := TRs_drop (l.toNat * sz) h5
                simpa using this
          · cases he
        · cases he
      · cases he
    · cases he
  · cases he
end
end Go.AX

namespace Go.AX
open Go Go.RowKit
variable [Cst]

/-- What a function is given, in a world. -/
structure HRel (N M0 : Nat → Prop) (w : World) (E : Emb) (h : List AOb) : Prop where
  ob : ∀ j, OR E (hO h) w (Mu N E (hO h)) (E j) (hO h j).2
  inj : ∀ i j g, (hO h i).2.live = true → (hO h j).2.isDead = false → blk (E i) = some g → blk (E j) = some g → i = j
  lv : ∀ i g, (hO h i).2.isDead = false → blk (E i) = some g → M0 g
  nf : ∀ b, N b → b < w.heap.size ∧ ¬ M0 b
  kb : ∀ g c, Cst.K g = some c → w.heap[g]? = some c ∧ ¬ M0 g

/-- What it leaves. -/
structure HRes (N M0 : Nat → Prop) (w w' : World) (E E' : Emb) (n : Nat) (h' : List AOb) (r : AV) (v : Value) : Prop where
  fr : Fr w M0 w'
  same : ∀ j, j < n → (hO h' j).2.isDead = false → E' j = E j
  ob : ∀ j, OR E' (hO h') w' (Mu N E' (hO h')) (E' j) (hO h' j).2
  inj : ∀ i j g, (hO h' i).2.live = true → (hO h' j).2.isDead = false → blk (E' i) = some g → blk (E' j) = some g → i = j
  lv : ∀ i g, (hO h' i).2.isDead = false → blk (E' i) = some g → (i < n ∧ M0 g) ∨ w.heap.size ≤ g
  val : AVR E' (hO h') w' (Mu N E' (hO h')) r v
  len : n ≤ h'.length

/-- THE CONTRACT: called with arguments that read as 'args' and objects 'h', the function returns what reads as 'r', and leaves 'h''. -/
def Con (P : Program) (f : FuncId) (args : List AV) (h : List AOb) (r : AV) (h' : List AOb) : Prop :=
  ∀ (N M0 : Nat → Prop) (w : World) (E : Emb) (vs : List Value), HRel N M0 w E h → AVRs E (hO h) w (Mu N E (hO h)) args vs →
    Calls P f vs.toArray w fun e w' => ∃ v E', e = .returned v ∧ HRes N M0 w w' E E' h.length h' r v

section
variable {P : Program} {nt : Nat} {w0 w w' : World} {N M0 : Nat → Prop} {E : Emb} {st : St} {a : Act}

omit [Cst] in
theorem hO_nil (j : Nat) : hO [] j = (0, .dead) := rfl

omit [Cst] in
theorem TR_flat {M M' : Nat → Prop} {x : T} {v : Value} (hf : flatT x = true) (h : TR w M x v) : TR w M' x v := by
  cases x <;> simp_all [flatT, TR]

/-- Arguments are snapshots: they read, however their own rows are written later on. -/
theorem snaps_at (h : Sim nt w0 N M0 E st a w) {M' : Nat → Prop} (hM : ∀ b, M' b → Mu N E st.o b) : ∀ {xs : List AV} {vs : List Value} {ys : List T}, AVRs E st.o w (Mu N E st.o) xs vs → snaps st.o xs = some ys →
    (∀ id ∈ xs.flatMap refs1, ∀ g, blk (E id) = some g → ¬ M' g) → TL w M' ys vs
  | [], vs, ys, hv, hs, _ => by simp [snaps] at hs; subst hs; simpa [AVRs, TL] using hv
  | x :: xs, vs, ys, hv, hs, hx => by
    simp only [snaps] at hs
    split at hs
    · rename_i y ys' h1 h2
      simp at hs; subst hs
      simp only [AVRs] at hv
      obtain ⟨v, vs', rfl, hv1, hv2⟩ := hv
      exact ⟨v, vs', rfl, snap_at h hM hv1 h1 (fun id hid => hx id (by simp [hid])), snaps_at h hM hv2 h2 (fun id hid => hx id (by
        simp only [List.flatMap_cons, List.mem_append]; exact .inr hid))⟩
    · cases hs

theorem snapA_at (h : Sim nt w0 N M0 E st a w) {E1 : Emb} {M' : Nat → Prop} (hM : ∀ b, M' b → Mu N E st.o b) {x y : AV} {v : Value} (hv : AVR E st.o w (Mu N E st.o) x v) (hs : snapA st.o x = some y)
    (hx : ∀ id ∈ refsA x, ∀ g, blk (E id) = some g → ¬ M' g) : AVR E1 (hO []) w M' y v := by
  cases x with
  | agg xs =>
    simp only [snapA, Option.map_eq_some_iff] at hs
    obtain ⟨ys, hys, rfl⟩ := hs
    simp only [AVR] at hv ⊢
    obtain ⟨vs, rfl, hvs⟩ := hv
    exact ⟨vs, rfl, TL_AVRs (snaps_at h hM hvs hys hx)⟩
  | fn f => simp [snapA] at hs; subst hs; simpa [AVR] using hv
  | t x =>
    simp only [snapA, Option.map_eq_some_iff] at hs
    obtain ⟨z, hz, rfl⟩ := hs
    simp only [AVR]
    exact snap_at h hM hv hz hx
  | own id ver =>
    simp only [snapA, Option.map_eq_some_iff] at hs
    obtain ⟨z, hz, rfl⟩ := hs
    simp only [AVR]
    exact snap_at h hM hv hz hx
  | _ => simp [snapA, snap] at hs

theorem snapsA_at (h : Sim nt w0 N M0 E st a w) {E1 : Emb} {M' : Nat → Prop} (hM : ∀ b, M' b → Mu N E st.o b) : ∀ {xs ys : List AV} {vs : List Value}, AVRs E st.o w (Mu N E st.o) xs vs → snapsA st.o xs = some ys →
    (∀ id ∈ xs.flatMap refsA, ∀ g, blk (E id) = some g → ¬ M' g) → AVRs E1 (hO []) w M' ys vs
  | [], ys, vs, hv, hs, _ => by simp [snapsA] at hs; subst hs; simpa [AVRs] using hv
  | x :: xs, ys, vs, hv, hs, hx => by
    simp only [snapsA] at hs
    split at hs
    · rename_i y ys' h1 h2
      simp at hs; subst hs
      simp only [AVRs] at hv ⊢
      obtain ⟨v, vs', rfl, hv1, hv2⟩ := hv
      exact ⟨v, vs', rfl, snapA_at h hM hv1 h1 (fun id hid => hx id (by simp [hid])), snapsA_at h hM hv2 h2 (fun id hid => hx id (by
        simp only [List.flatMap_cons, List.mem_append]; exact .inr hid))⟩
    · cases hs

omit [Cst] in
theorem putO_newObs (d n : Nat) (o : Obs) : ∀ (l : List AOb) (j : Nat) (o1 : Obs) (id : Nat),
    putO o1 (newObs o d n j l) id = if ∃ k, k < l.length ∧ id = nid d (j + k) then ((o id).1 + 1, renOb d n o ((l[id - nid d j]?).getD .dead)) else o1 id
  | [], j, o1, id => by simp [newObs, putO]
  | x :: l, j, o1, id => by
    simp only [newObs, newOb, putO]
    rw [putO_newObs d n o l (j + 1)]
    by_cases h0 : id = nid d j
    · subst h0
      rw [if_neg (by rintro ⟨k, _, e⟩; simp only [nid] at e; omega), if_pos ⟨0, by simp, by simp⟩]
      simp [upd_same]
    · by_cases h1 : ∃ k, k < l.length ∧ id = nid d (j + 1 + k)
      · obtain ⟨k, hk, e⟩ := h1
        rw [if_pos ⟨k, hk, e⟩, if_pos ⟨k + 1, by simpa using hk, by rw [e]; congr 1; omega⟩]
        have : id - nid d j = (id - nid d (j + 1)) + 1 := by simp only [nid] at e ⊢; omega
        rw [this]; simp
      · rw [if_neg h1, if_neg (by
          rintro ⟨k, hk, e⟩
          cases k with
          | zero => exact h0 (by simpa using e)
          | succ k => exact h1 ⟨k, by simpa using hk, by rw [e]; congr 1; omega⟩), upd_ne _ _ h0]

/-! ### what the callee made, under the caller's numbers -/
section ren
variable {d n : Nat} {o o2 : Obs} {obs : List AOb} {E' E2 : Emb} {M1 M2 : Nat → Prop}

omit [Cst] in
theorem renT_ok (h2 : ∀ j, j < n → (o2 (nid d j)).1 = (o (nid d j)).1 + 1 ∧ E2 (nid d j) = E' j) {x : AV} {u : Value} (hK : (∀ b, b < w'.heap.size → M2 b → M1 b) ∨ flat1 x = true)
    (hx : AVR E' (hO obs) w' M1 x u) : AVR E2 o2 w' M2 (renT d n o x) u := by
  have k : (∀ b, b < w'.heap.size → M2 b → M1 b) → Keep w' M1 w' M2 := fun hm => ⟨Nat.le_refl _, fun _ _ _ => rfl, hm⟩
  cases x with
  | t y =>
    simp only [renT, AVR] at hx ⊢
    rcases hK with hm | hf
    · exact TR_keep (k hm) _ _ hx
    · exact TR_flat hf hx
  | own j ver =>
    simp only [renT]
    split
    · rename_i hj
      obtain ⟨e1, e2⟩ := h2 j hj
      simp only [AVR] at hx ⊢
      rw [e1, e2]
      refine ⟨Nat.le_refl _, fun _ => hx.2 ?_⟩
      have := hx.1; simp only [hO] at this ⊢; omega
    · simp [AVR]
  | ptr j ver off =>
    simp only [renT]
    split
    · rename_i hj
      obtain ⟨e1, e2⟩ := h2 j hj
      simp only [AVR] at hx ⊢
      rw [e1, e2]
      refine ⟨Nat.le_refl _, fun _ => hx.2 ?_⟩
      have := hx.1; simp only [hO] at this ⊢; omega
    · simp [AVR]
  | mp j ver =>
    simp only [renT]
    split
    · rename_i hj
      obtain ⟨e1, e2⟩ := h2 j hj
      simp only [AVR] at hx ⊢
      rw [e1, e2]
      refine ⟨Nat.le_refl _, fun _ => hx.2 ?_⟩
      have := hx.1; simp only [hO] at this ⊢; omega
    · simp [AVR]
  | cp cs =>
    rcases hK with hm | hf
    · simp only [renT, AVR] at hx ⊢
      obtain ⟨ad, e, h1, h3, h4⟩ := hx
      exact ⟨ad, e, fun hh => h1 (hm _ h3 hh), h3, TRs_keep (k hm) ad h1 h3 0 cs h4⟩
    · simp [flat1] at hf
  | fn f => simpa [renT, AVR] using hx
  | non => simpa [renT, AVR] using hx
  | undef => simp [renT, AVR]
  | agg xs => simp [renT, AVR]
  | tup xs => simp [renT, AVR]

omit [Cst] in
theorem renTs_ok (h2 : ∀ j, j < n → (o2 (nid d j)).1 = (o (nid d j)).1 + 1 ∧ E2 (nid d j) = E' j) : ∀ {xs : List AV} {us : List Value}, ((∀ b, b < w'.heap.size → M2 b → M1 b) ∨ xs.all flat1 = true) →
    AVRs E' (hO obs) w' M1 xs us → AVRs E2 o2 w' M2 (xs.map (renT d n o)) us
  | [], us, _, hx => by simpa [AVRs] using hx
  | x :: xs, us, hK, hx => by
    simp only [AVRs] at hx
    obtain ⟨v, vs', rfl, h3, h4⟩ := hx
    simp only [List.map_cons, AVRs]
    exact ⟨v, vs', rfl, renT_ok h2 (hK.imp (fun h => h) (fun h => by simp at h; exact h.1)) h3, renTs_ok h2 (hK.imp (fun h => h) (fun h => by simp at h ⊢; exact h.2)) h4⟩

omit [Cst] in
theorem renB_ok (h2 : ∀ j, j < n → (o2 (nid d j)).1 = (o (nid d j)).1 + 1 ∧ E2 (nid d j) = E' j) {x : AV} {u : Value} (hK : (∀ b, b < w'.heap.size → M2 b → M1 b) ∨ flatB x = true)
    (hx : AVR E' (hO obs) w' M1 x u) : AVR E2 o2 w' M2 (renB d n o x) u := by
  by_cases hagg : ∃ xs, x = .agg xs
  · obtain ⟨xs, rfl⟩ := hagg
    simp only [AVR, renB] at hx ⊢
    obtain ⟨vs, rfl, hvs⟩ := hx
    exact ⟨vs, rfl, renTs_ok h2 (hK.imp (fun h => h) (fun h => by simpa [flatB] using h)) hvs⟩
  · have e1 : renB d n o x = renT d n o x := by cases x <;> first | rfl | exact absurd ⟨_, rfl⟩ hagg
    have e2 : flatB x = flat1 x := by cases x <;> first | rfl | exact absurd ⟨_, rfl⟩ hagg
    rw [e1]; rw [e2] at hK
    exact renT_ok h2 hK hx

omit [Cst] in
theorem renBs_ok (h2 : ∀ j, j < n → (o2 (nid d j)).1 = (o (nid d j)).1 + 1 ∧ E2 (nid d j) = E' j) : ∀ {xs : List AV} {us : List Value}, ((∀ b, b < w'.heap.size → M2 b → M1 b) ∨ xs.all flatB = true) →
    AVRs E' (hO obs) w' M1 xs us → AVRs E2 o2 w' M2 (xs.map (renB d n o)) us
  | [], us, _, hx => by simpa [AVRs] using hx
  | x :: xs, us, hK, hx => by
    simp only [AVRs] at hx
    obtain ⟨v, vs', rfl, h3, h4⟩ := hx
    simp only [List.map_cons, AVRs]
    exact ⟨v, vs', rfl, renB_ok h2 (hK.imp (fun h => h) (fun h => by simp at h; exact h.1)) h3, renBs_ok h2 (hK.imp (fun h => h) (fun h => by simp at h ⊢; exact h.2)) h4⟩

omit [Cst] in
theorem renA_ok (h2 : ∀ j, j < n → (o2 (nid d j)).1 = (o (nid d j)).1 + 1 ∧ E2 (nid d j) = E' j) {x : AV} {u : Value} (hK : (∀ b, b < w'.heap.size → M2 b → M1 b) ∨ flatA x = true)
    (hx : AVR E' (hO obs) w' M1 x u) : AVR E2 o2 w' M2 (renA d n o x) u := by
  by_cases htup : ∃ xs, x = .tup xs
  · obtain ⟨xs, rfl⟩ := htup
    simp only [AVR, renA] at hx ⊢
    obtain ⟨vs, rfl, hvs⟩ := hx
    exact ⟨vs, rfl, renBs_ok h2 (hK.imp (fun h => h) (fun h => by simpa [flatA] using h)) hvs⟩
  · have e1 : renA d n o x = renB d n o x := by cases x <;> first | rfl | exact absurd ⟨_, rfl⟩ htup
    have e2 : flatA x = flatB x := by cases x <;> first | rfl | exact absurd ⟨_, rfl⟩ htup
    rw [e1]; rw [e2] at hK
    exact renB_ok h2 hK hx

omit [Cst] in
theorem TL_flat {M M' : Nat → Prop} : ∀ {xs : List T} {us : List Value}, xs.all flatT = true → TL w M xs us → TL w M' xs us
  | [], _, _, h => h
  | x :: xs, _, hf, ⟨v, vs', e, h1, h2⟩ => by
    subst e
    simp at hf
    exact ⟨v, vs', rfl, TR_flat hf.1 h1, TL_flat (by simpa using hf.2) h2⟩

omit [Cst] in
theorem renOb_ok (h2 : ∀ j, j < n → (o2 (nid d j)).1 = (o (nid d j)).1 + 1 ∧ E2 (nid d j) = E' j) {hv : Value} {x : AOb} (hK : (∀ b, b < w'.heap.size → M2 b → M1 b) ∨ flatOb x = true)
    (hx : OR E' (hO obs) w' M1 hv x) : OR E2 o2 w' M2 hv (renOb d n o x) := by
  cases x with
  | dead => trivial
  | row fz nn e sz m cs =>
    obtain ⟨us, h3, h4, h5⟩ := hx
    refine ⟨us, h3, ?_, h5⟩
    rcases hK with hm | hf
    · exact TL_keep ⟨Nat.le_refl _, fun _ _ _ => rfl, hm⟩ _ _ h4
    · exact TL_flat (by simpa [flatOb] using hf) h4
  | box t cs =>
    obtain ⟨g, us, e, h3, h4, h5⟩ := hx
    exact ⟨g, us, e, h3, renTs_ok h2 (hK.imp (fun h => h) (fun h => by simpa [flatOb] using h)) h4, h5⟩
  | map a b c => exact hx.elim

omit [Cst] in
theorem renOb_live (x : AOb) : (renOb d n o x).live = x.live := by cases x <;> rfl
omit [Cst] in
theorem renOb_dead (x : AOb) : (renOb d n o x).isDead = x.isDead := by cases x <;> rfl
end ren
end
end Go.AX

namespace Go.AX
open Go Go.RowKit
variable [Cst]

section
variable {P : Program} {nt : Nat} {w0 w w' : World} {N M0 : Nat → Prop} {E : Emb} {st : St} {a : Act}

theorem calls_none_slot (h : Sim nt w0 N M0 E st a w) {M1 : Nat → Prop} (hr : Fr w (fun _ => False) w') (_ : M1 = M1) : Sim nt w0 N M0 E st a w' := by
  have := h.step (w' := w') (Ext.refl _ _) hr.size (fun b hb _ => hr.block b hb (fun h => h)) (fun _ _ h => h) ⟨hr.os, hr.tape, hr.output⟩
    (fun i => by
      cases hdd : (st.o i).2.isDead with
      | true => cases hx : (st.o i).2 <;> simp_all [AOb.isDead, OR]
      | false => exact OR_keep (Ext.refl _ _) ⟨hr.size, fun b hb _ => hr.block b hb (fun h => h), fun _ _ h => h⟩ _ (fun g hg => hr.block g (h.lt hdd hg) (fun h => h)) _ (h.ob i)) h.inj h.lv
    (d := none) (fun _ e => by cases e) (v := undef) (av := .non) (by simp [AVR])
  simpa [putS, Act.put] using this

theorem not_N (h : Sim nt w0 N M0 E st a w) {id g : Nat} (hnd : (st.o id).2.isDead = false) (hg : blk (E id) = some g) : ¬ N g := by
  intro hN
  have := h.nf g hN
  rcases h.lv id g hnd hg with h3 | h3
  · exact this.2 h3
  · omega

omit [Cst] in
theorem snaps_refs {o : Obs} : ∀ {xs : List AV} {ys : List T}, snaps o xs = some ys → ∀ id ∈ xs.flatMap refs1, ∃ fz nn e sz n cs, (o id).2 = .row fz nn e sz n cs
  | [], _, _, id, hid => by simp at hid
  | x :: xs, ys, hs, id, hid => by
    simp only [snaps] at hs
    split at hs
    · rename_i h1 h2
      simp only [List.flatMap_cons, List.mem_append] at hid
      rcases hid with hid | hid
      · exact snap_refs h1 id hid
      · exact snaps_refs h2 id hid
    · cases hs
omit [Cst] in
theorem snapsA_refs {o : Obs} : ∀ {xs ys : List AV}, snapsA o xs = some ys → ∀ id ∈ xs.flatMap refsA, ∃ fz nn e sz n cs, (o id).2 = .row fz nn e sz n cs
  | [], _, _, id, hid => by simp at hid
  | x :: xs, ys, hs, id, hid => by
    simp only [snapsA] at hs
    split at hs
    · rename_i h1 h2
      simp only [List.flatMap_cons, List.mem_append] at hid
      rcases hid with hid | hid
      · cases x with
        | agg zs =>
          simp only [snapA, Option.map_eq_some_iff] at h1
          obtain ⟨z, hz, _⟩ := h1
          exact snaps_refs hz id hid
        | own i ver =>
          simp only [snapA, Option.map_eq_some_iff] at h1
          obtain ⟨z, hz, _⟩ := h1
          exact snap_refs hz id hid
        | t y => simp [refsA, refs1] at hid
        | fn f => simp [refsA, refs1] at hid
        | _ => simp [snapA, snap] at h1
      · exact snapsA_refs h2 id hid
    · cases hs

omit [Cst] in
theorem nid_inj {d j k : Nat} (h : nid d j = nid d k) : j = k := by simp only [nid] at h; omega

theorem callE_ok (h : Sim nt w0 N M0 E st a w) {call : Call'} {d : Option Nat} {f : FuncId} {args : List AV} {vs : List Value} {e : Eff} (hcon : ∀ xs r obs, call f xs = some (r, obs) → Con P f xs [] r obs)
    (hv : AVRs E st.o w (Mu N E st.o) args vs) (he : callE call st.o d f args = some e) (hd : ∀ t, d = some t → t < nt) :
    Calls P f vs.toArray w fun en w' => ∃ v E', en = .returned v ∧ Sim nt w0 N M0 E' (st.app d e) (a.put d v) w' := by
  unfold callE at he
  split at he
  · cases he
  rename_i xs hxs
  -- what the callee must leave alone
  let ids := args.flatMap refsA
  let N' : Nat → Prop := fun b => N b ∨ (Ow E st.o b ∧ ∀ id ∈ ids, blk (E id) ≠ some b)
  have hN' : ∀ b, N' b → Mu N E st.o b := fun b hb => hb.imp (fun h => h) (fun h => h.1)
  have hlt : ∀ b, N' b → b < w.heap.size := by
    rintro b (hb | ⟨⟨i, h1, h2⟩, _⟩)
    · exact Nat.lt_of_lt_of_le (h.nf b hb).1 h.fr.size
    · exact h.lt (AOb.live_nd h1) h2
  have hOw0 : ∀ b, ¬ Ow E (hO []) b := by rintro b ⟨i, h1, _⟩; simp [hO, AOb.live] at h1
  have hMu : ∀ b, Mu N' E (hO []) b → N' b := fun b hb => hb.elim (fun h => h) (fun h => (hOw0 b h).elim)
  have hrel : HRel N' (fun _ => False) w E [] :=
    ⟨fun j => trivial, fun i j g h1 => by simp [hO, AOb.live] at h1, fun i g h1 => by simp [hO, AOb.isDead] at h1, fun b hb => ⟨hlt b hb, fun h => h⟩,
      fun g c hg => ⟨(h.fr.block g (Array.getElem?_eq_some_iff.1 (h.kb g c hg).1).1 (h.kb g c hg).2).trans (h.kb g c hg).1, fun h => h⟩⟩
  have hargs : AVRs E (hO []) w (Mu N' E (hO [])) xs vs := by
    refine snapsA_at h (fun b hb => hN' b (hMu b hb)) hv hxs (fun id hid g hg hb => ?_)
    rcases hMu g hb with hb | ⟨_, hb⟩
    · obtain ⟨_, _, _, _, _, _, hr⟩ := snapsA_refs hxs id hid
      exact not_N h (by rw [hr]; rfl) hg hb
    · exact hb id hid hg
  split at he
  · -- a result, and a slot for it
    rename_i r obs d hcall
    split at he
    · rename_i hlen
      simp only [Option.some.injEq] at he; subst he
      refine (hcon _ _ _ hcall N' (fun _ => False) w E vs hrel hargs).mono ?_
      rintro en w' ⟨v, E', rfl, hres⟩
      have hblk : ∀ b, b < w.heap.size → w'.heap[b]? = w.heap[b]? := fun b hb => hres.fr.block b hb (fun h => h)
      -- freezing, if something of the arguments' may be in the result
      obtain ⟨st1, hst1s, hst1, h1, hfrz⟩ : ∃ st1 : St, st1.s = st.s ∧ st1.o = putO st.o (if flatA r && obs.all flatOb then [] else frz st.o ids) ∧ Sim nt w0 N M0 E st1 a w ∧
          ((flatA r && obs.all flatOb) = true ∨ ∀ id ∈ ids, (st1.o id).2.live = false) := by
        by_cases hfl : (flatA r && obs.all flatOb) = true
        · exact ⟨st, rfl, by simp [hfl, putO], h, .inl hfl⟩
        · refine ⟨⟨st.s, putO st.o (frz st.o ids)⟩, rfl, by simp [hfl], h.frz ids, .inr fun id hid => ?_⟩
          simp only [putO_frz, hid, if_true]
          obtain ⟨fz, nn, e, sz, n, cs, hr⟩ := snapsA_refs hxs id hid
          rw [show st.o id = ((st.o id).1, .row fz nn e sz n cs) from by rw [← hr]]
          rfl
      have hver1 : ∀ id, (st1.o id).1 = (st.o id).1 := by
        intro id; rw [hst1]; split
        · rfl
        · exact frz_ver _ _ _
      have hlive1 : ∀ id, (st1.o id).2.live = true → (st.o id).2.live = true := by
        intro id; rw [hst1]; split
        · exact fun h => h
        · rw [putO_frz]; split
          · exact fz1_live
          · exact fun h => h
      let o2 := putO st1.o (newObs st.o d obs.length 0 obs)
      let E2 : Emb := fun id => if ∃ k, k < obs.length ∧ id = nid d k then E' (id - nid d 0) else E id
      have hnew : ∀ j, j < obs.length → (o2 (nid d j)).1 = (st.o (nid d j)).1 + 1 ∧ E2 (nid d j) = E' j := by
        intro j hj
        refine ⟨?_, ?_⟩
        · show (putO st1.o _ _).1 = _
          rw [putO_newObs, if_pos ⟨j, hj, by simp⟩]
        · show (if _ then _ else _) = _
          rw [if_pos ⟨j, hj, rfl⟩]; congr 1; simp only [nid]; omega
      have hnew2 : ∀ j, j < obs.length → (o2 (nid d j)).2 = renOb d obs.length st.o (hO obs j).2 := by
        intro j hj
        show (putO st1.o _ _).2 = _
        rw [putO_newObs, if_pos ⟨j, hj, by simp⟩]
        simp only [hO]; congr 3; simp only [nid]; omega
      have hold : ∀ id, ¬ (∃ k, k < obs.length ∧ id = nid d k) → o2 id = st1.o id ∧ E2 id = E id := by
        intro id hn
        refine ⟨?_, if_neg hn⟩
        show putO st1.o _ _ = _
        rw [putO_newObs, if_neg (by simpa using hn)]
      have hnd : ∀ j, (hO obs j).2.isDead = false → j < obs.length := by
        intro j hj
        rcases Nat.lt_or_ge j obs.length with h | h
        · exact h
        · simp [hO, List.getElem?_eq_none h, AOb.isDead] at hj
      have hge : ∀ j g, (hO obs j).2.isDead = false → blk (E' j) = some g → w.heap.size ≤ g := fun j g h1 h2 => (hres.lv j g h1 h2).elim (fun h => by have := h.1; simp at this) (fun h => h)
      have hM : (∀ b, b < w'.heap.size → Mu N E2 o2 b → Mu N' E' (hO obs) b) ∨ (flatA r && obs.all flatOb) = true := by
        rcases hfrz with hf | hf
        · exact .inr hf
        · refine .inl fun b _ hb => ?_
          rcases hb with hb | ⟨i, h3, h4⟩
          · exact .inl (.inl hb)
          · by_cases hi : ∃ k, k < obs.length ∧ i = nid d k
            · obtain ⟨k, hk, rfl⟩ := hi
              rw [hnew2 k hk, renOb_live] at h3
              rw [(hnew k hk).2] at h4
              exact .inr ⟨k, h3, h4⟩
            · obtain ⟨e1, e2⟩ := hold i hi
              rw [e1] at h3; rw [e2] at h4
              refine .inl (.inr ⟨⟨i, hlive1 i h3, h4⟩, fun id hid hb => ?_⟩)
              obtain ⟨_, _, _, _, _, _, hr⟩ := snapsA_refs hxs id hid
              have := h.inj i id b (hlive1 i h3) (by rw [hr]; rfl) h4 hb
              subst this
              rw [hf i hid] at h3; cases h3
      have x : Ext E st1.o E2 o2 := by
        refine ⟨fun id => ?_, fun id e => ?_⟩
        · by_cases hi : ∃ k, k < obs.length ∧ id = nid d k
          · obtain ⟨k, hk, rfl⟩ := hi
            rw [(hnew k hk).1, hver1]; exact Nat.le_succ _
          · rw [(hold id hi).1]; exact Nat.le_refl _
        · by_cases hi : ∃ k, k < obs.length ∧ id = nid d k
          · obtain ⟨k, hk, rfl⟩ := hi
            rw [(hnew k hk).1, hver1] at e; omega
          · exact (hold id hi).2
      have hmark : ∀ b, b < w.heap.size → Ow E2 o2 b → Ow E st1.o b := by
        rintro b hb ⟨i, h3, h4⟩
        by_cases hi : ∃ k, k < obs.length ∧ i = nid d k
        · obtain ⟨k, hk, rfl⟩ := hi
          rw [hnew2 k hk, renOb_live] at h3
          rw [(hnew k hk).2] at h4
          have := hge k b (AOb.live_nd h3) h4
          omega
        · obtain ⟨e1, e2⟩ := hold i hi
          rw [e1] at h3; rw [e2] at h4
          exact ⟨i, h3, h4⟩
      have kp : Keep w (Mu N E st1.o) w' (Mu N E2 o2) := ⟨hres.fr.size, fun b hb _ => hblk b hb, fun b hb hM => hM.imp (fun h => h) (hmark b hb)⟩
      refine ⟨v, E2, rfl, ?_⟩
      have hfin := h1.step (w' := w') x hres.fr.size (fun b hb _ => hblk b hb) hmark ⟨hres.fr.os, hres.fr.tape, hres.fr.output⟩ ?_ ?_ ?_ hd (v := v) (av := renA d obs.length st.o r)
        (renA_ok (fun j hj => hnew j hj) (hM.imp (fun h => h) (fun h => (Bool.and_eq_true _ _ ▸ h).1)) hres.val)
      · have he : (st.app (some d) ⟨renA d obs.length st.o r, (if (flatA r && obs.all flatOb) = true then [] else frz st.o (List.flatMap refsA args)) ++ newObs st.o d obs.length 0 obs⟩) = ⟨putS st1.s (some d) (renA d obs.length st.o r), o2⟩ := by
          simp only [St.app, hst1s, putO_append, ← hst1, o2, ids]
        rw [he]; exact hfin
      · intro i
        by_cases hi : ∃ k, k < obs.length ∧ i = nid d k
        · obtain ⟨k, hk, rfl⟩ := hi
          rw [hnew2 k hk, (hnew k hk).2]
          refine renOb_ok (fun j hj => hnew j hj) (hM.imp (fun h => h) (fun h => ?_)) (hres.ob k)
          have h' := (Bool.and_eq_true _ _ ▸ h).2
          simp only [hO, List.getElem?_eq_getElem hk, Option.getD_some]
          exact List.all_eq_true.1 h' _ (List.getElem_mem hk)
        · obtain ⟨e1, e2⟩ := hold i hi
          rw [e1, e2]
          cases hdd : (st1.o i).2.isDead with
          | true => cases hx : (st1.o i).2 <;> simp_all [AOb.isDead, OR]
          | false => exact OR_keep x kp _ (fun g hg => hblk g (h1.lt hdd hg)) _ (h1.ob i)
      · intro i j g h3 h4 h5 h6
        by_cases hi : ∃ k, k < obs.length ∧ i = nid d k <;> by_cases hj : ∃ k, k < obs.length ∧ j = nid d k
        · obtain ⟨k, hk, rfl⟩ := hi
          obtain ⟨l, hl, rfl⟩ := hj
          rw [hnew2 k hk, renOb_live] at h3
          rw [hnew2 l hl, renOb_dead] at h4
          rw [(hnew k hk).2] at h5
          rw [(hnew l hl).2] at h6
          rw [hres.inj k l g h3 h4 h5 h6]
        · obtain ⟨k, hk, rfl⟩ := hi
          rw [hnew2 k hk, renOb_live] at h3
          rw [(hnew k hk).2] at h5
          obtain ⟨e1, e2⟩ := hold j hj
          rw [e1] at h4; rw [e2] at h6
          have := hge k g (AOb.live_nd h3) h5
          have := h1.lt h4 h6
          omega
        · obtain ⟨l, hl, rfl⟩ := hj
          rw [hnew2 l hl, renOb_dead] at h4
          rw [(hnew l hl).2] at h6
          obtain ⟨e1, e2⟩ := hold i hi
          rw [e1] at h3; rw [e2] at h5
          have := hge l g h4 h6
          have := h1.lt (AOb.live_nd h3) h5
          omega
        · obtain ⟨e1, e2⟩ := hold i hi
          obtain ⟨e3, e4⟩ := hold j hj
          rw [e1] at h3; rw [e2] at h5; rw [e3] at h4; rw [e4] at h6
          exact h1.inj i j g h3 h4 h5 h6
      · intro i g h3 h4
        by_cases hi : ∃ k, k < obs.length ∧ i = nid d k
        · obtain ⟨k, hk, rfl⟩ := hi
          rw [hnew2 k hk, renOb_dead] at h3
          rw [(hnew k hk).2] at h4
          exact .inr (Nat.le_trans h.fr.size (hge k g h3 h4))
        · obtain ⟨e1, e2⟩ := hold i hi
          rw [e1] at h3; rw [e2] at h4
          exact h1.lv i g h3 h4
    · cases he
  · simp only [Option.some.injEq] at he; subst he
    rename_i r obs hcall
    refine (hcon _ _ _ hcall N' (fun _ => False) w E vs hrel hargs).mono ?_
    rintro en w' ⟨v, E', rfl, hres⟩
    refine ⟨v, E, rfl, ?_⟩
    have := calls_none_slot h hres.fr (M1 := N) rfl
    simpa [St.app, putS, putO, Act.put] using this
  · cases he
end
end Go.AX

namespace Go.AX
open Go Go.RowKit
variable [Cst]

/-- Is it a Go function with a body (and not the one that the machine serves itself)? -/
def callable (P : Program) (f : FuncId) : Bool :=
  match P.funcs[f]? with
  | some fn => !(fn.name == "runtime.NumGoroutine") && fn.body.isSome
  | none => false

/-- Each call that the oracle answers keeps its contract. -/
def Keeps (P : Program) (call : Call') : Prop := ∀ f xs r obs, call f xs = some (r, obs) → callable P f = true ∧ Con P f xs [] r obs

section
variable {P : Program} {nt : Nat} {w0 w w' : World} {N M0 : Nat → Prop} {E : Emb} {st : St} {a : Act} {K : Act → World → Prop} {Q : Exit → Act → World → Prop}

theorem wp_fine {o : Oper} {e : Eff} (hf : Fine P nt w0 N M0 st a w o e) (hK : ∀ v w' E', Sim nt w0 N M0 E' (st.app o.dst e) (a.put o.dst v) w' → K (a.put o.dst v) w') : o.wp P a w K Q := by
  obtain ⟨nx, w', v, hr, hx, E', hs⟩ := hf
  unfold Oper.wp
  rw [hr]
  rcases hx with rfl | ⟨rfl, rfl⟩
  · exact hK v w' E' hs
  · exact hK undef w' E' hs

omit [Cst] in
theorem run_callFunc {f : FuncId} (h : callable P f = true) (args : Array Value) : (callFunc f args).run P w = .ok (.enter f args) w := by
  unfold callable at h
  cases hf : P.funcs[f]? with
  | none => rw [hf] at h; cases h
  | some fn =>
    rw [hf] at h
    simp only [Bool.and_eq_true, Bool.not_eq_true'] at h
    have h1 : ¬ fn.name = "runtime.NumGoroutine" := by simpa using h.1
    obtain ⟨c, hc⟩ := Option.isSome_iff_exists.1 h.2
    simp [callFunc, hf, h1, hc]

theorem evs_ok (h : Sim nt w0 N M0 E st a w) : ∀ (l : List Operand), AVRs E st.o w (Mu N E st.o) (l.map (ev st.s)) (l.map a.eval)
  | [] => by simp [AVRs]
  | x :: l => by simp only [List.map_cons, AVRs]; exact ⟨_, _, rfl, ev_ok h x, evs_ok h l⟩

theorem fine_builtin {o : Oper} {b : Builtin} {args : Array Operand} {ts : Array TypeId} {e : Eff} (ho : o.op = .call { callee := .builtin b, args := args, argTypes := ts })
    (hb : ∃ s, (∀ cs, builtin b ts o.type cs (args.map a.eval) = (do pure (.value (← s)) : Sem Next)) ∧ ∃ v w' E', s.run P w = .ok v w' ∧ Sim nt w0 N M0 E' (st.app o.dst e) (a.put o.dst v) w') : Fine P nt w0 N M0 st a w o e := by
  obtain ⟨s, hs, v, w', E', hr, hsim⟩ := hb
  refine ⟨.value v, w', v, ?_, .inl rfl, E', hsim⟩
  simp only [execOp, ho, resolve, Sem.run_bind, Sem.run_pure, Result.andThen_ok, invoke, hs, hr]

theorem opE_ok (h : Sim nt w0 N M0 E st a w) {call : Call'} (hcall : Keeps P call) {o : Oper} {e : Eff} (he : opE P call st.s st.o o = some e) (hd : ∀ t, o.dst = some t → t < nt)
    (hK : ∀ v w' E', Sim nt w0 N M0 E' (st.app o.dst e) (a.put o.dst v) w' → K (a.put o.dst v) w') : o.wp P a w K Q := by
  unfold opE at he
  split at he
  · rename_i x ho; exact wp_fine (fine_of_yields h hd (moveE_ok h he (.inl ho))) hK
  · rename_i x ho; exact wp_fine (fine_of_yields h hd (moveE_ok h he (.inr ho))) hK
  · rename_i c x y ho; exact wp_fine (fine_of_yields h hd (pickE_ok h he ho)) hK
  · rename_i t ho; exact wp_fine (allocE_ok h he ho hd) hK
  · rename_i t v ho; exact wp_fine (boxE_ok h he ho hd) hK
  · rename_i t ps ho; exact wp_fine (fine_of_yields h hd (buildE_ok h he ho)) hK
  · rename_i t len ps ho; exact wp_fine (buildSliceE_ok h he ho hd) hK
  · rename_i t x ho; exact wp_fine (fine_of_yields h hd (loadE_ok h he ho)) hK
  · rename_i t x y ho
    split at he
    · rename_i hdst; exact wp_fine (storeE_ok h he ho hdst) hK
    · cases he
  · rename_i x ho; exact wp_fine (fine_of_yields h hd (nilCheckE_ok h he ho)) hK
  · rename_i op xt x y yt ho
    simp only [Option.map_eq_some_iff] at he
    obtain ⟨r, hr, rfl⟩ := he
    exact wp_fine (fine_of_yields h hd ⟨rfl, binE_ok h hr ho⟩) hK
  · rename_i op xt x ho
    simp only [Option.map_eq_some_iff] at he
    obtain ⟨r, hr, rfl⟩ := he
    exact wp_fine (fine_of_yields h hd ⟨rfl, unE_ok h hr ho⟩) hK
  · rename_i src dst x ho; exact wp_fine (fine_of_yields h hd (convE_ok h he ho)) hK
  · rename_i t l c ho; exact wp_fine (makeSliceE_ok h he ho hd) hK
  · rename_i t x lo hi ho; exact wp_fine (sliceE_ok h he ho hd) hK
  · rename_i t x f ho; exact wp_fine (fine_of_yields h hd (fieldAddrE_ok h he ho)) hK
  · rename_i t x f ho; exact wp_fine (fine_of_yields h hd (fieldE_ok h he ho)) hK
  · rename_i t x i ho; exact wp_fine (fine_of_yields h hd (indexAddrE_ok h he ho)) hK
  · rename_i t x i ho; exact wp_fine (fine_of_yields h hd (indexE_ok h he ho)) hK
  · rename_i x i ho; exact wp_fine (fine_of_yields h hd (extractE_ok h he ho)) hK
  · rename_i c ho
    obtain ⟨callee, args, ts⟩ := c
    simp only at he
    split at he
    · -- len
      split at he
      · rename_i hcl x t ha ht
        have ha' : args = #[x] := by apply Array.toList_inj.1; simpa using ha
        have ht' : ts = #[t] := by apply Array.toList_inj.1; simpa using ht
        subst ha'; subst ht'
        obtain ⟨hw, v, hr, hv⟩ := lenE_ok (P := P) (ty := o.type) h he
        obtain ⟨ev', ws⟩ := e; simp only at hw hv; subst hw
        exact wp_fine (fine_builtin ho ⟨_, fun cs => by simp only [builtin]; rfl, v, w, E, by simpa using hr, h.pure hd hv⟩) hK
      · cases he
    · -- append
      split at he
      · rename_i hcl x y t t' ha ht
        have ha' : args = #[x, y] := by apply Array.toList_inj.1; simpa using ha
        have ht' : ts = #[t, t'] := by apply Array.toList_inj.1; simpa using ht
        subst ha'; subst ht'
        obtain ⟨v, w', E', hr, hs⟩ := appendE_ok (P := P) (ty := o.type) h he hd
        exact wp_fine (fine_builtin ho ⟨_, fun cs => by simp only [builtin]; rfl, v, w', E', by simpa using hr, hs⟩) hK
      · cases he
    · split at he
      · rename_i hcl x y ha
        have ha' : args = #[x, y] := by apply Array.toList_inj.1; simpa using ha
        subst ha'
        obtain ⟨hw, v, hr, hv⟩ := minE_ok (P := P) h he ts o.type
        obtain ⟨ev', ws⟩ := e; simp only at hw hv; subst hw
        exact wp_fine (fine_builtin ho ⟨_, fun cs => by simp only [builtin]; rfl, v, w, E, by simpa using hr, h.pure hd hv⟩) hK
      · cases he
    · split at he
      · rename_i hcl x y ha
        have ha' : args = #[x, y] := by apply Array.toList_inj.1; simpa using ha
        subst ha'
        obtain ⟨hw, v, hr, hv⟩ := maxE_ok (P := P) h he ts o.type
        obtain ⟨ev', ws⟩ := e; simp only at hw hv; subst hw
        exact wp_fine (fine_builtin ho ⟨_, fun cs => by simp only [builtin]; rfl, v, w, E, by simpa using hr, h.pure hd hv⟩) hK
      · cases he
    · -- a Go function
      rename_i F
      split at he
      · rename_i f hf
        have hF := ev_ok h F
        rw [hf] at hF; simp only [AVR] at hF
        have hvs := evs_ok h args.toList
        have hcl : callable P f = true := by
          unfold callE at he
          split at he
          · cases he
          · split at he
            · rename_i hc _; exact (hcall _ _ _ _ hc).1
            · rename_i hc _; exact (hcall _ _ _ _ hc).1
            · cases he
        have hc := callE_ok h (fun xs r obs hx => (hcall _ _ _ _ hx).2) hvs he hd
        have hrun : (execOp a.eval o).run P w = .ok (.enter f (args.toList.map a.eval).toArray) w := by
          have hargs : (#[] : Array Value) ++ args.map a.eval ++ #[] = (args.toList.map a.eval).toArray := by apply Array.toList_inj.1; simp
          simp only [execOp, ho, resolve, hF, Deferred.ofValue, Sem.run_bind, Sem.run_pure, Result.andThen_ok, invoke]
          rw [hargs, run_callFunc hcl]
        unfold Oper.wp
        rw [hrun, Oper.upon_enter]
        refine hc.mono ?_
        rintro en w' ⟨v, E', rfl, hs⟩
        exact hK v w' E' hs
      · cases he
    · cases he
  · cases he

/-! ### regions in the order of the text -/
theorem guardE_ok (h : Sim nt w0 N M0 E st a w) {ops : Array Oper} {o : Oper} {b : Bool} (hg : guardE ops st.s o = some b) : Region.wanted o (yielded ops a.tmps) = b := by
  unfold guardE at hg
  unfold Region.wanted
  split at hg
  · rename_i hn; simp at hg; subst hg; rw [hn]
  · rename_i j want hn
    rw [hn]
    simp only [yielded]
    split at hg
    · rename_i d hd
      rw [hd]
      simp only [Option.bind_some]
      have hs := h.sl d
      split at hg
      · rename_i c hc
        simp at hg; subst hg
        rw [hc] at hs; simp only [AVR, TR] at hs
        have : a.tmps[d]? = some (.bool c) := by
          rw [Array.getD_eq_getD_getElem?] at hs
          cases hx : a.tmps[d]? with
          | none => rw [hx] at hs; simp [undef] at hs
          | some v => rw [hx] at hs; simpa using hs
        rw [this]
        cases c <;> cases want <;> rfl
      · rename_i hc
        simp at hg; subst hg
        rw [hc] at hs; simp only [AVR] at hs
        have : ∀ b, a.tmps[d]? ≠ some (.bool b) := by
          intro b hb
          rw [Array.getD_eq_getD_getElem?, hb] at hs
          simp [undef] at hs
        cases hx : a.tmps[d]? with
        | none => rfl
        | some v => cases v <;> first | rfl | exact (this _ hx).elim
      · cases hg
    · rename_i hd
      simp at hg; subst hg
      rw [hd]; rfl

theorem stepE_ok (h : Sim nt w0 N M0 E st a w) {call : Call'} (hcall : Keeps P call) {ops : Array Oper} {o : Oper} {e : Eff} (he : stepE P call ops st o = some e) (hd : ∀ t, o.dst = some t → t < nt)
    (hK : ∀ v w' E', Sim nt w0 N M0 E' (st.app o.dst e) (a.put o.dst v) w' → K (a.put o.dst v) w') :
    if Region.wanted o (yielded ops a.tmps) then o.wp P a w K Q ∨ (o.asks P a w ∧ LetsOut Q) else K (a.put o.dst undef) w := by
  unfold stepE at he
  split at he
  · rename_i hg
    rw [guardE_ok h hg, if_pos rfl]
    exact .inl (opE_ok h hcall he hd hK)
  · rename_i hg
    rw [guardE_ok h hg]
    simp only [Option.some.injEq] at he; subst he
    simp only [Bool.false_eq_true, if_false]
    exact hK undef w E (h.pure hd (by simp [AVR]))
  · cases he

theorem runE_ok {call : Call'} (hcall : Keeps P call) {ops : Array Oper} : ∀ (os : List Oper) {st st' : St} {E : Emb} {a : Act} {w : World}, Sim nt w0 N M0 E st a w → runE P call ops os st = some st' →
    (∀ o ∈ os, ∀ t, o.dst = some t → t < nt) → (∀ a' w' E', Sim nt w0 N M0 E' st' a' w' → Q .normal a' w') → wpList P ops Q os a w
  | [], st, st', E, a, w, h, hr, _, hQ => by
    simp [runE] at hr; subst hr
    exact hQ a w E h
  | o :: os, st, st', E, a, w, h, hr, hd, hQ => by
    simp only [runE] at hr
    split at hr
    · rename_i e he
      unfold wpList
      exact stepE_ok h hcall he (hd o (by simp)) (fun v w' E' hs => runE_ok hcall os hs hr (fun o' ho' => hd o' (by simp [ho'])) hQ)
    · cases hr
end
end Go.AX

namespace Go.AX
open Go Go.RowKit

section
variable {P : Program} {o o' : Obs}

theorem cellsAt_congr {x : AV} (h : ∀ id ∈ refsA x, o id = o' id) : cellsAt o x = cellsAt o' x := by
  cases x <;> simp only [cellsAt, refsA, refs1, List.mem_singleton, forall_eq] at h ⊢
  rw [h]
theorem cellsOf_congr {x : AV} (h : ∀ id ∈ refsA x, o id = o' id) : cellsOf o x = cellsOf o' x := by
  cases x <;> simp only [cellsOf, refsA, refs1, List.mem_singleton, forall_eq] at h ⊢ <;> rw [h]
theorem boxCell_congr {x : AV} (h : ∀ id ∈ refs1 x, o id = o' id) : boxCell o x = boxCell o' x := by
  cases x <;> simp only [boxCell, refs1, List.mem_singleton, forall_eq] at h ⊢ <;> rw [h]
theorem snap_congr {x : AV} (h : ∀ id ∈ refs1 x, o id = o' id) : snap o x = snap o' x := by
  cases x <;> simp only [snap, refs1, List.mem_singleton, forall_eq] at h ⊢
  rw [h]
theorem refs1_refsA {x : AV} {id : Nat} (h : id ∈ refs1 x) : id ∈ refsA x := by
  cases x <;> first | exact h | simp [refs1] at h
theorem snaps_congr : ∀ {xs : List AV}, (∀ id ∈ xs.flatMap refs1, o id = o' id) → snaps o xs = snaps o' xs
  | [], _ => rfl
  | x :: xs, h => by
    simp only [snaps]
    rw [snap_congr (o := o) (o' := o') (fun id hid => h id (by simp [hid])), snaps_congr (fun id hid => h id (by
      simp only [List.flatMap_cons, List.mem_append]; exact .inr hid))]
theorem snapA_congr {x : AV} (h : ∀ id ∈ refsA x, o id = o' id) : snapA o x = snapA o' x := by
  cases x with
  | agg xs => simp only [snapA]; rw [snaps_congr h]
  | fn f => rfl
  | _ => simp only [snapA]; rw [snap_congr (fun id hid => h id (refs1_refsA hid))]
theorem snapsA_congr : ∀ {xs : List AV}, (∀ id ∈ xs.flatMap refsA, o id = o' id) → snapsA o xs = snapsA o' xs
  | [], _ => rfl
  | x :: xs, h => by
    simp only [snapsA]
    rw [snapA_congr (o := o) (o' := o') (fun id hid => h id (by simp only [List.flatMap_cons, List.mem_append]; exact .inl hid)), snapsA_congr (fun id hid => h id (by
      simp only [List.flatMap_cons, List.mem_append]; exact .inr hid))]
theorem nilQ_congr {x : AV} (h : ∀ id ∈ refsA x, o id = o' id) : nilQ o x = nilQ o' x := by
  cases x with
  | own id ver => simp only [nilQ, refsA, refs1, List.mem_singleton, forall_eq] at h ⊢; rw [h]
  | t x => cases x <;> rfl
  | _ => rfl
theorem frz_congr {ids : List Nat} (h : ∀ id ∈ ids, o id = o' id) : frz o ids = frz o' ids := by
  unfold frz
  exact List.map_congr_left fun id hid => by rw [h id hid]
theorem newOb_congr {d j : Nat} {x : AOb} (h : o (nid d j) = o' (nid d j)) : newOb o d j x = newOb o' d j x := by unfold newOb; rw [h]
theorem eqE_congr {xt : TypeId} {x y : AV} (h : ∀ id ∈ refsA x, o id = o' id) : eqE P o xt x y = eqE P o' xt x y := by
  unfold eqE
  split <;> try rfl
  rw [nilQ_congr h]
theorem binE_congr {op : BinOp} {xt : TypeId} {x y : AV} (h : ∀ id ∈ refsA x, o id = o' id) : binE P o op xt x y = binE P o' op xt x y := by
  unfold binE
  split <;> try rfl
  split <;> try rfl
  · rw [eqE_congr h]
  · rw [eqE_congr h]

theorem cellsOf_refs {x : AV} {xs : List AV} (h : cellsOf o x = some xs) : ∀ id ∈ xs.flatMap refs1, id ∈ refsA x := by
  cases x <;> simp only [cellsOf] at h
  case agg ys => cases h; exact fun id hid => hid
  case t y => cases h; simp [refs1]
  case fn f => cases h; simp [refs1]
  case own id ver =>
    split at h
    · split at h
      · cases h; simp [refs1, refsA]
      · cases h
    · cases h
  case ptr id ver off =>
    split at h
    · split at h
      · cases h; simp [refs1, refsA]
      · cases h
    · cases h
  case mp id ver =>
    split at h
    · split at h
      · cases h; simp [refs1, refsA]
      · cases h
    · cases h
  all_goals cases h

theorem lay_congr {place : Nat → Option (Nat × Nat)} : ∀ {ps : List (Nat × AV)} {cs : List AV}, (∀ id ∈ ps.flatMap (fun p => refsA p.2), o id = o' id) → lay o place cs ps = lay o' place cs ps
  | [], _, _ => rfl
  | (i, v) :: ps, cs, h => by
    simp only [lay]
    rw [cellsOf_congr (o := o) (o' := o') (fun id hid => h id (by simp only [List.flatMap_cons, List.mem_append]; exact .inl hid))]
    split
    · split
      · exact lay_congr (fun id hid => h id (by simp only [List.flatMap_cons, List.mem_append]; exact .inr hid))
      · rfl
    · rfl

theorem lay_refs {place : Nat → Option (Nat × Nat)} : ∀ {ps : List (Nat × AV)} {cs r : List AV}, lay o place cs ps = some r → ∀ id ∈ r.flatMap refs1, id ∈ cs.flatMap refs1 ∨ id ∈ ps.flatMap (fun p => refsA p.2)
  | [], _, _, h, id, hid => by simp [lay] at h; subst h; exact .inl hid
  | (i, v) :: ps, cs, r, h, id, hid => by
    simp only [lay] at h
    split at h
    · rename_i off sz xs hp hx
      split at h
      · rename_i hc
        rcases lay_refs h id hid with h1 | h1
        · simp only [List.flatMap_append, List.mem_append] at h1
          rcases h1 with (h1 | h1) | h1
          · obtain ⟨y, hy, hy2⟩ := List.mem_flatMap.1 h1
            exact .inl (List.mem_flatMap.2 ⟨y, List.mem_of_mem_take hy, hy2⟩)
          · exact .inr (by simp only [List.flatMap_cons, List.mem_append]; exact .inl (cellsOf_refs hx id h1))
          · obtain ⟨y, hy, hy2⟩ := List.mem_flatMap.1 h1
            exact .inl (List.mem_flatMap.2 ⟨y, List.mem_of_mem_drop hy, hy2⟩)
        · exact .inr (by simp only [List.flatMap_cons, List.mem_append]; exact .inr h1)
      · cases h
    · cases h

theorem refs1_ts : ∀ (xs : List T), (xs.map AV.t).flatMap refs1 = []
  | [] => rfl
  | _ :: xs => by simp only [List.map_cons, List.flatMap_cons, refs1, List.nil_append]; exact refs1_ts xs

theorem renT_congr {d n : Nat} (h : ∀ k, k < 8 → o (nid d k) = o' (nid d k)) (hn : n ≤ 8) : renT d n o = renT d n o' := by
  funext y
  cases y <;> simp only [renT]
  all_goals
    split
    · rename_i hj; rw [h _ (Nat.lt_of_lt_of_le hj hn)]
    · rfl
theorem newObs_congr {d n : Nat} (h : ∀ k, k < 8 → o (nid d k) = o' (nid d k)) (hn : n ≤ 8) : ∀ {obs : List AOb} {j : Nat}, j + obs.length ≤ 8 → newObs o d n j obs = newObs o' d n j obs
  | [], _, _ => rfl
  | x :: obs, j, hj => by
    simp only [List.length_cons] at hj
    have e := renT_congr h hn
    have e2 : renOb d n o x = renOb d n o' x := by cases x <;> simp only [renOb, e]
    simp only [newObs]
    rw [e2, newOb_congr (h j (by omega)), newObs_congr h hn (by omega)]
theorem renA_congr {d n : Nat} (h : ∀ k, k < 8 → o (nid d k) = o' (nid d k)) (hn : n ≤ 8) {x : AV} : renA d n o x = renA d n o' x := by
  have e := renT_congr h hn
  have e2 : renB d n o = renB d n o' := by funext y; cases y <;> simp only [renB, e]
  cases x <;> simp only [renA, e2]

theorem callE_congr {call : Call'} {d : Option Nat} {f : FuncId} {args : List AV} (h : ∀ id ∈ args.flatMap refsA, o id = o' id) (hd : ∀ k, d = some k → ∀ j, j < 8 → o (nid k j) = o' (nid k j)) :
    callE call o d f args = callE call o' d f args := by
  unfold callE
  rw [snapsA_congr h]
  split
  · rfl
  · split
    · rename_i d' hcall
      split
      · rename_i hle
        rw [renA_congr (hd _ rfl) hle, newObs_congr (hd _ rfl) hle (by omega), frz_congr h]
      · rfl
    · rfl
    · rfl

theorem all_congr {xs : List AV} (h : ∀ id ∈ xs.flatMap refs1, o id = o' id) : xs.all (boxCell o) = xs.all (boxCell o') := by
  induction xs with
  | nil => rfl
  | cons x xs ih =>
    simp only [List.all_cons]
    rw [boxCell_congr (o := o) (o' := o') (fun id hid => h id (by simp [hid])), ih (fun id hid => h id (by simp only [List.flatMap_cons, List.mem_append]; exact .inr hid))]

theorem ev_parts {s s' : Nat → AV} {ps : Array (Nat × Operand)} (h : ∀ x ∈ (ps.toList.map (·.2)).toArray, ev s x = ev s' x) : evParts s ps = evParts s' ps := by
  unfold evParts
  refine List.map_congr_left fun p hp => ?_
  obtain ⟨i, x⟩ := p
  simp only
  rw [h x (by simp only [List.mem_toArray, List.mem_map]; exact ⟨(i, x), hp, rfl⟩)]

theorem srcE_congr {x : AV} (h : ∀ id ∈ refsA x, o id = o' id) : srcE o x = srcE o' x := by
  unfold srcE; rw [snap_congr (fun id hid => h id (refs1_refsA hid))]

theorem opE_congr {call : Call'} {s s' : Nat → AV} {op : Oper} (hs : ∀ x ∈ op.op.operands, ev s x = ev s' x) (h : ∀ id ∈ rdOp s op, o id = o' id)
    (hd : ∀ d, op.dst = some d → ∀ j, j < 8 → o (nid d j) = o' (nid d j)) : opE P call s o op = opE P call s' o' op := by
  obtain ⟨dst, op, type, pos, after, guard⟩ := op
  have hr : ∀ x ∈ op.operands, ∀ id ∈ refsA (ev s' x), o id = o' id := fun x hx id hid => h id (by
    simp only [rdOp, List.mem_flatMap]
    exact ⟨x, by simpa using hx, by rw [hs x hx]; exact hid⟩)
  clear h
  dsimp only at hs hd
  cases op <;> simp only [Op.operands] at hs hr <;> simp only [opE]
  case move x => rw [hs x (by simp)]
  case assign x => rw [hs x (by simp)]
  case pick c a b => rw [hs c (by simp), hs a (by simp), hs b (by simp)]
  case alloc t =>
    unfold allocE
    cases dst with
    | none => rfl
    | some d =>
      split <;> try rfl
      cases ‹some d = some _›
      simp only [newOb_congr (hd d rfl 0 (by omega)), hd d rfl 0 (by omega)]
  case box t v =>
    rw [hs v (by simp)]
    unfold boxE
    cases dst with
    | none => rfl
    | some d =>
      rw [cellsOf_congr (hr v (by simp))]
      cases hc : cellsOf o' (ev s' v) with
      | none => rfl
      | some cs => simp only [newOb_congr (hd d rfl 0 (by omega)), hd d rfl 0 (by omega), all_congr (fun id hid => hr v (by simp) id (cellsOf_refs hc id hid))]
  case build t ps =>
    rw [ev_parts hs]
    unfold buildE
    split
    · rw [lay_congr]
      intro id hid
      obtain ⟨p, hp, hid⟩ := List.mem_flatMap.1 hid
      simp only [evParts, List.mem_map] at hp
      obtain ⟨q, hq, rfl⟩ := hp
      exact hr q.2 (by simp only [List.mem_toArray, List.mem_map]; exact ⟨q, hq, rfl⟩) id hid
    · rfl
  case buildSlice t len ps =>
    rw [ev_parts hs]
    have hps : ∀ id ∈ (evParts s' ps).flatMap (fun p => refsA p.2), o id = o' id := by
      intro id hid
      obtain ⟨p, hp, hid⟩ := List.mem_flatMap.1 hid
      simp only [evParts, List.mem_map] at hp
      obtain ⟨q, hq, rfl⟩ := hp
      exact hr q.2 (by simp only [List.mem_toArray, List.mem_map]; exact ⟨q, hq, rfl⟩) id hid
    unfold buildSliceE
    cases dst with
    | none => rfl
    | some d =>
      split <;> try rfl
      cases ‹some d = some _›
      split <;> try rfl
      rw [lay_congr hps]
      split
      · split
        · rename_i cs hl
          have hcs : ∀ id ∈ cs.flatMap refs1, o id = o' id := by
            intro id hid
            rcases lay_refs hl id hid with h1 | h1
            · rw [refs1_ts] at h1; cases h1
            · exact hps id h1
          rw [snaps_congr hcs]
          split
          · rw [newOb_congr (hd d rfl 0 (by omega)), hd d rfl 0 (by omega), frz_congr hcs]
          · rfl
        · rfl
      · rfl
  case load t x =>
    rw [hs x (by simp)]
    unfold loadE
    rw [cellsAt_congr (hr x (by simp))]
  case store t x v =>
    rw [hs x (by simp), hs v (by simp)]
    split
    · unfold storeE
      rw [cellsOf_congr (hr v (by simp))]
      split
      · rename_i i xs id ver off hi hx hp
        have hxs : ∀ id ∈ xs.flatMap refs1, o id = o' id := fun id hid => hr v (by simp) id (cellsOf_refs hx id hid)
        have hid : o id = o' id := hr x (by simp) id (by rw [hp]; simp [refsA, refs1])
        rw [hid, all_congr hxs, snaps_congr hxs, frz_congr hxs]
      · rfl
    · rfl
  case nilCheck x =>
    rw [hs x (by simp)]
    unfold nilCheckE
    split
    · rename_i id ver off hp
      rw [hr x (by simp) id (by rw [hp]; simp [refsA, refs1])]
    · rfl
    · rfl
  case binOp op xt x y _ => rw [hs x (by simp), hs y (by simp), binE_congr (hr x (by simp))]
  case unOp op _ x => rw [hs x (by simp)]
  case convert src dst x =>
    rw [hs x (by simp)]
    unfold convE
    rw [snap_congr (fun id hid => hr x (by simp) id (refs1_refsA hid))]
  case makeSlice t l c =>
    rw [hs l (by simp), hs c (by simp)]
    unfold makeSliceE
    cases dst with
    | none => rfl
    | some d =>
      split <;> try rfl
      cases ‹some d = some _›
      simp only [newOb_congr (hd d rfl 0 (by omega)), hd d rfl 0 (by omega)]
  case slice t x lo hi mx =>
    cases mx with
    | some m => rfl
    | none =>
      have h1 : lo.map (ev s) = lo.map (ev s') := by cases lo <;> simp_all
      have h2 : hi.map (ev s) = hi.map (ev s') := by cases hi <;> simp_all
      simp only
      rw [hs x (by simp), h1, h2]
      unfold sliceE
      have hx : ∀ id ∈ refs1 (ev s' x), o id = o' id := fun id hid => hr x (by simp) id (refs1_refsA hid)
      rw [snap_congr hx, frz_congr hx]
  case fieldAddr t x f =>
    rw [hs x (by simp)]
    unfold fieldAddrE
    split
    · split
      · rename_i off sz _ id ver b _ hp
        rw [hr x (by simp) id (by rw [hp]; simp [refsA, refs1])]
      · rfl
      · rfl
    · rfl
  case field t x f => rw [hs x (by simp)]
  case indexAddr t x i =>
    rw [hs x (by simp), hs i (by simp)]
    unfold indexAddrE
    split
    · split
      · split
        · rfl
        · rename_i id ver hp
          rw [hr x (by simp) id (by rw [hp]; simp [refsA, refs1])]
        · rfl
      · rfl
    · rfl
  case index t x i => rw [hs x (by simp), hs i (by simp)]
  case extract x i => rw [hs x (by simp)]
  case call c =>
    obtain ⟨callee, args, ts⟩ := c
    simp only [Call.operands] at hs hr
    dsimp only
    have hmap : args.toList.map (ev s) = args.toList.map (ev s') := List.map_congr_left fun x hx => hs x (by
      have := Array.mem_toList_iff.1 hx
      cases callee <;> simp [this])
    split
    · split
      · rename_i x t hx ht
        have hxm : x ∈ args.toList := by rw [hx]; simp
        have e1 : ev s x = ev s' x := by rw [hx] at hmap; simpa using hmap
        rw [e1]
        unfold lenE
        split <;> try rfl
        split <;> try rfl
        rename_i id ver hp
        rw [hr x (by simpa using hxm) id (by rw [hp]; simp [refsA, refs1])]
      · rfl
    · split
      · rename_i x y t t' hx ht
        have hxm : x ∈ args.toList := by rw [hx]; simp
        have hym : y ∈ args.toList := by rw [hx]; simp
        rw [hx] at hmap
        simp only [List.map_cons, List.map_nil, List.cons.injEq, and_true] at hmap
        rw [hmap.1, hmap.2]
        unfold appendE
        cases dst with
        | none => rfl
        | some d =>
          rw [srcE_congr (hr y (by simpa using hym))]
          split <;> try rfl
          cases ‹some d = some _›
          split <;> try rfl
          split <;> try rfl
          split <;> try rfl
          split <;> try rfl
          split
          · rename_i id ver hp
            rw [hr x (by simpa using hxm) id (by rw [hp]; simp [refsA, refs1])]
          · rw [newOb_congr (hd d rfl 0 (by omega)), hd d rfl 0 (by omega)]
          · rfl
      · rfl
    · split
      · rename_i x y hx
        rw [hx] at hmap
        simp only [List.map_cons, List.map_nil, List.cons.injEq, and_true] at hmap
        rw [hmap.1, hmap.2]
      · rfl
    · split
      · rename_i x y hx
        rw [hx] at hmap
        simp only [List.map_cons, List.map_nil, List.cons.injEq, and_true] at hmap
        rw [hmap.1, hmap.2]
      · rfl
    · rename_i f
      rw [hs f (by simp)]
      split
      · rw [hmap]
        refine callE_congr ?_ hd
        intro id hid
        obtain ⟨v, hv, hid⟩ := List.mem_flatMap.1 hid
        obtain ⟨x, hx, rfl⟩ := List.mem_map.1 hv
        exact hr x (by simp [Array.mem_toList_iff.1 hx]) id hid
      · rfl
    · rfl
end
end Go.AX

namespace Go.AX
open Go Go.RowKit
variable [Cst]

section
variable {P : Program} {call : Call'} {ops : Array Oper}

/-! ### what an operation leaves alone -/
omit [Cst] in
theorem apE_spec {d : Option Nat} {rd ws : List Nat} (h : apE d rd ws = true) : (∀ id ∈ rd, id ∉ ws) ∧ ∀ k, d = some k → ∀ j, j < 8 → nid k j ∉ ws := by
  unfold apE at h
  rw [List.all_eq_true] at h
  refine ⟨fun id hid hw => ?_, fun k hk j hj hw => ?_⟩
  · have := h id hw
    simp [hid] at this
  · have := h _ hw
    rw [hk] at this
    simp only [Bool.and_eq_true, bne_iff_ne, ne_eq] at this
    exact this.2 (by simp only [nid]; omega)

omit [Cst] in
theorem putO_out : ∀ {ws : Wr} {o : Obs} {id : Nat}, id ∉ ws.map (·.1) → putO o ws id = o id
  | [], _, _, _ => rfl
  | (i, x) :: ws, o, id, h => by
    simp only [List.map_cons, List.mem_cons, not_or] at h
    simp only [putO]
    rw [putO_out h.2, upd_ne _ _ h.1]

omit [Cst] in
theorem putO_in : ∀ {ws : Wr} {o o' : Obs} {id : Nat}, id ∈ ws.map (·.1) → putO o ws id = putO o' ws id
  | [], _, _, _, h => by simp at h
  | (i, x) :: ws, o, o', id, h => by
    simp only [putO]
    by_cases hin : id ∈ ws.map (·.1)
    · exact putO_in hin
    · simp only [List.map_cons, List.mem_cons] at h
      rcases h with rfl | h
      · rw [putO_out hin, putO_out hin, upd_same, upd_same]
      · exact (hin h).elim

omit [Cst] in
theorem putO_comm {ws us : Wr} (o : Obs) (h : ∀ id ∈ ws.map (·.1), id ∉ us.map (·.1)) : putO (putO o ws) us = putO (putO o us) ws := by
  funext id
  by_cases h1 : id ∈ ws.map (·.1)
  · rw [putO_out (h id h1)]; exact putO_in h1
  · rw [putO_out (ws := ws) h1]
    by_cases h2 : id ∈ us.map (·.1)
    · exact putO_in h2
    · rw [putO_out h2, putO_out h2, putO_out h1]

omit [Cst] in
theorem app_comm {st : St} {d d' : Option Nat} {e e' : Eff} (hd : ∀ t, d = some t → d' ≠ some t) (h : ∀ id ∈ idsW e, id ∉ idsW e') : (st.app d e).app d' e' = (st.app d' e').app d e := by
  unfold St.app
  simp only [St.mk.injEq]
  refine ⟨?_, putO_comm _ h⟩
  funext t
  simp only [putS_apply]
  by_cases h1 : d' = some t
  · have h2 : d ≠ some t := fun h2 => hd t h2 h1
    rw [if_pos h1, if_neg h2, if_pos h1]
  · rw [if_neg h1]
    by_cases h2 : d = some t
    · rw [if_pos h2, if_pos h2]
    · rw [if_neg h2, if_neg h2, if_neg h1]

omit [Cst] in
theorem ev_put {s : Nat → AV} {d : Option Nat} {v : AV} {x : Operand} (h : ∀ t, d = some t → x ≠ .tmp t) : ev (putS s d v) x = ev s x := by
  cases x with
  | tmp t =>
    simp only [ev, putS_apply]
    rw [if_neg (fun e => h t e rfl)]
  | _ => rfl

omit [Cst] in
theorem rdOp_put {st : St} {d : Option Nat} {e : Eff} {o : Oper} (h : ∀ t, d = some t → t ∉ o.looksAt ops) : (∀ x ∈ o.op.operands, ev (st.app d e).s x = ev st.s x) ∧ rdOp (st.app d e).s o = rdOp st.s o := by
  have hx : ∀ x ∈ o.op.operands, ev (st.app d e).s x = ev st.s x := fun x hx => ev_put fun t ht hxt => h t ht (by
    subst hxt
    exact List.mem_append_left _ (List.mem_filterMap.2 ⟨.tmp t, by simpa using hx, rfl⟩))
  refine ⟨hx, ?_⟩
  unfold rdOp
  simp only [List.flatMap_def]
  congr 1
  exact List.map_congr_left fun x hm => by rw [hx x (by simpa using hm)]

omit [Cst] in
theorem guard_put {st : St} {d : Option Nat} {e : Eff} {o : Oper} (h : ∀ t, d = some t → t ∉ o.looksAt ops) : guardE ops (st.app d e).s o = guardE ops st.s o := by
  unfold guardE
  cases hg : o.guard with
  | none => rfl
  | some gw =>
    obtain ⟨g, want⟩ := gw
    dsimp only
    cases hb : (ops[g]?).bind (·.dst) with
    | none => rfl
    | some t =>
      dsimp only
      have : d ≠ some t := fun e => h t e (by
        refine List.mem_append_right _ ?_
        simp only [hg]
        rw [hb]; simp)
      have e1 : (st.app d e).s t = st.s t := by simp only [St.app, putS_apply, if_neg this]
      rw [e1]

omit [Cst] in
theorem step_put {st : St} {d : Option Nat} {e : Eff} {o : Oper} (h : ∀ t, d = some t → t ∉ o.looksAt ops) (ha : apE o.dst (rdOp st.s o) (idsW e) = true) : stepE P call ops (st.app d e) o = stepE P call ops st o := by
  unfold stepE
  rw [guard_put h]
  obtain ⟨h1, h2⟩ := rdOp_put (st := st) (d := d) (e := e) h
  obtain ⟨a1, a2⟩ := apE_spec ha
  split
  · refine opE_congr h1 (fun id hid => ?_) (fun k hk j hj => ?_)
    · rw [h2] at hid
      exact putO_out (a1 id hid)
    · exact putO_out (a2 k hk j hj)
  · rfl
  · rfl

/-! ### any order -/
def AnyE (P : Program) (call : Call') (ops : Array Oper) (eff : Nat → Eff) (ft : Nat → List Nat) (st' : St) : Nat → Array Bool → St → Prop
  | 0, listed, st => Region.ready .any ops listed = [] ∧ st = st'
  | fuel + 1, listed, st => (Region.ready .any ops listed = [] → st = st') ∧
    ∀ i ∈ Region.ready .any ops listed, ∀ oi, ops[i]? = some oi → stepE P call ops st oi = some (eff i) ∧ rdOp st.s oi = ft i ∧ AnyE P call ops eff ft st' fuel (listed.setIfInBounds i true) (st.app oi.dst (eff i))

def rcOf (eff : Nat → Eff) (ft : Nat → List Nat) (i : Nat) (o : Oper) : Rc := ⟨o.dst, ft i, idsW (eff i)⟩

omit [Cst] in
theorem anyE_first {eff : Nat → Eff} {ft : Nat → List Nat} {st' : St} {i : Nat} {oi : Oper} (hi : ops[i]? = some oi) :
    ∀ (fuel : Nat) (listed : Array Bool) (st : St),
      (∀ j oj, ops[j]? = some oj → j ≠ i → listed.getD j true = false → (∀ e ∈ oj.after, Region.binds .any e = true → e.on ≠ i) → oi.apart ops oj = true ∧ disE (rcOf eff ft i oi) (rcOf eff ft j oj) = true) →
      i ∈ Region.ready .any ops listed → stepE P call ops st oi = some (eff i) → rdOp st.s oi = ft i →
      AnyE P call ops eff ft st' fuel (listed.setIfInBounds i true) (st.app oi.dst (eff i)) → AnyE P call ops eff ft st' (fuel + 1) listed st := by
  intro fuel
  induction fuel with
  | zero =>
    intro listed st _ hr hs hf H
    refine ⟨fun h => (by rw [h] at hr; cases hr), fun j hj oj hoj => ?_⟩
    by_cases hji : j = i
    · subst hji
      cases hi.symm.trans hoj
      exact ⟨hs, hf, H⟩
    · have := ready_mono hj hji
      rw [H.1] at this
      cases this
  | succ fuel ih =>
    intro listed st hfree hr hs hf H
    refine ⟨fun h => (by rw [h] at hr; cases hr), fun j hj oj hoj => ?_⟩
    by_cases hji : j = i
    · subst hji
      cases hi.symm.trans hoj
      exact ⟨hs, hf, H⟩
    · obtain ⟨s1, f1, H1⟩ := H.2 j (ready_mono hj hji) oj hoj
      obtain ⟨hjun, oj', hoj', hall⟩ := mem_ready.1 hj
      cases hoj.symm.trans hoj'
      have hnot : ∀ e ∈ oj.after, Region.binds .any e = true → e.on ≠ i := fun e he hb heq => by
        have h1 := hall e he hb
        have h0 := (mem_ready.1 hr).1
        rw [heq] at h1
        rcases Nat.lt_or_ge i listed.size with h' | h'
        · simp [h'] at h0 h1; rw [h0] at h1; cases h1
        · simp [Array.getElem?_eq_none h'] at h1
      obtain ⟨hap, hdis⟩ := hfree j oj hoj hji hjun hnot
      obtain ⟨a1, a2, a3⟩ := Oper.apart_spec hap
      simp only [disE, rcOf, Bool.and_eq_true] at hdis
      obtain ⟨⟨d1, d2⟩, d3⟩ := hdis
      have hfj : rdOp st.s oj = ft j := by rw [← f1]; exact ((rdOp_put (st := st) (d := oi.dst) (e := eff i) a1).2).symm
      have hsj : stepE P call ops st oj = some (eff j) := by
        rw [← step_put (st := st) (d := oi.dst) (e := eff i) a1 (by rw [hfj]; exact d1)]; exact s1
      refine ⟨hsj, hfj, ?_⟩
      refine ih (listed.setIfInBounds j true) (st.app oj.dst (eff j)) (fun k ok hok hki hun hno => ?_) (ready_mono hr (Ne.symm hji)) ?_ ?_ ?_
      · refine hfree k ok hok hki ?_ hno
        by_cases hjk : j = k
        · subst hjk; exact hjun
        · rw [getD_set_ne true hjk] at hun; exact hun
      · rw [step_put a3 (by rw [hf]; exact d2)]; exact hs
      · rw [(rdOp_put (st := st) (d := oj.dst) (e := eff j) a3).2]; exact hf
      · rw [Array.setIfInBounds_comm _ _ hji, ← app_comm (fun t ht => a2 t ht) (fun id hid => by
          have := List.all_eq_true.1 d3 id hid
          simpa using this)]
        exact H1

/-! ### in the order of the text, with a look at what may be swapped -/
omit [Cst] in
theorem okE_spec {o : Oper} {q : Rc} : ∀ {rs : List Rc} {i : Nat}, okE o q i rs = true → ∀ k r, rs[k]? = some r → disE r q = true ∨ tiedE o (i + k) = true
  | [], _, _, k, r, hr => by simp at hr
  | x :: rs, i, h, k, r, hr => by
    simp only [okE, Bool.and_eq_true] at h
    cases k with
    | zero =>
      simp at hr; subst hr
      have h1 := h.1
      split at h1
      · exact .inl (by assumption)
      · exact .inr (by simpa using h1)
    | succ k =>
      have := okE_spec h.2 k r (by simpa using hr)
      rwa [show i + 1 + k = i + (k + 1) from by omega] at this

/-- The run and its tables. -/
def LexE (P : Program) (call : Call') (ops : Array Oper) (eff : Nat → Eff) (ft : Nat → List Nat) (st' : St) : Nat → List Oper → St → Prop
  | _, [], st => st = st'
  | k, o :: os, st => stepE P call ops st o = some (eff k) ∧ rdOp st.s o = ft k ∧ LexE P call ops eff ft st' (k + 1) os (st.app o.dst (eff k))

omit [Cst] in
theorem LexE_congr {eff eff' : Nat → Eff} {ft ft' : Nat → List Nat} {st' : St} : ∀ {os : List Oper} {k : Nat} {st : St}, (∀ j, k ≤ j → eff j = eff' j ∧ ft j = ft' j) → LexE P call ops eff ft st' k os st → LexE P call ops eff' ft' st' k os st
  | [], _, _, _, h => h
  | o :: os, k, st, hj, h => by
    simp only [LexE] at h ⊢
    obtain ⟨e1, e2⟩ := hj k (Nat.le_refl _)
    rw [← e1, ← e2]
    exact ⟨h.1, h.2.1, LexE_congr (fun j hk => hj j (by omega)) h.2.2⟩

omit [Cst] in
theorem runD_tables {st' : St} : ∀ (os : List Oper) (rs : List Rc) (st : St), runD P call ops rs os st = some st' → ∃ eff ft, LexE P call ops eff ft st' rs.length os st ∧
    ∀ n oj, os[n]? = some oj → (∀ i r, rs[i]? = some r → disE r (rcOf eff ft (rs.length + n) oj) = true ∨ tiedE oj i = true) ∧
      (∀ m oi, os[m]? = some oi → m < n → disE (rcOf eff ft (rs.length + m) oi) (rcOf eff ft (rs.length + n) oj) = true ∨ tiedE oj (rs.length + m) = true)
  | [], rs, st, h => by
    simp only [runD, Option.some.injEq] at h
    exact ⟨fun _ => ⟨.non, []⟩, fun _ => [], h, fun n oj hn => by simp at hn⟩
  | o :: os, rs, st, h => by
    simp only [runD] at h
    split at h
    · rename_i e he
      split at h
      · rename_i hok
        obtain ⟨eff, ft, hL, hD⟩ := runD_tables os _ _ h
        have hlen : (rs ++ [(⟨o.dst, rdOp st.s o, idsW e⟩ : Rc)]).length = rs.length + 1 := by simp
        rw [hlen] at hL hD
        refine ⟨fun j => if j = rs.length then e else eff j, fun j => if j = rs.length then rdOp st.s o else ft j, ?_, ?_⟩
        · simp only [LexE, if_pos]
          refine ⟨he, trivial, LexE_congr (fun j hj => ?_) hL⟩
          rw [if_neg (by omega), if_neg (by omega)]; exact ⟨rfl, rfl⟩
        · have hq : ∀ n oj, rcOf (fun j => if j = rs.length then e else eff j) (fun j => if j = rs.length then rdOp st.s o else ft j) (rs.length + (n + 1)) oj = rcOf eff ft (rs.length + 1 + n) oj := by
            intro n oj
            simp only [rcOf]
            rw [if_neg (by omega), if_neg (by omega), show rs.length + (n + 1) = rs.length + 1 + n from by omega]
          have h0 : ∀ oj, rcOf (fun j => if j = rs.length then e else eff j) (fun j => if j = rs.length then rdOp st.s o else ft j) rs.length oj = ⟨oj.dst, rdOp st.s o, idsW e⟩ := by
            intro oj; simp only [rcOf, if_true]
          intro n oj hn
          cases n with
          | zero =>
            simp at hn; subst hn
            refine ⟨fun i r hr => ?_, fun m oi _ hm => absurd hm (Nat.not_lt_zero _)⟩
            rw [Nat.add_zero, h0]
            have := okE_spec hok i r hr
            rwa [Nat.zero_add] at this
          | succ n =>
            obtain ⟨g1, g2⟩ := hD n oj (by simpa using hn)
            refine ⟨fun i r hr => ?_, fun m oi hoi hm => ?_⟩
            · rw [hq]
              exact g1 i r (by rw [List.getElem?_append_left (List.getElem?_eq_some_iff.1 hr).1]; exact hr)
            · rw [hq]
              cases m with
              | zero =>
                simp at hoi; subst hoi
                rw [Nat.add_zero, h0]
                exact g1 rs.length _ (by simp)
              | succ m =>
                rw [hq, show rs.length + (m + 1) = rs.length + 1 + m from by omega]
                exact g2 m oi (by simpa using hoi) (by omega)
      · cases h
    · cases h

omit [Cst] in
theorem anyE_lex {eff : Nat → Eff} {ft : Nat → List Nat} {st' : St} (hD : ∀ i j oi oj, ops[i]? = some oi → ops[j]? = some oj → i < j → disE (rcOf eff ft i oi) (rcOf eff ft j oj) = true ∨ tiedE oj i = true) :
    ∀ (l : List Oper) (k : Nat) (listed : Array Bool) (st : St), (∀ j, l[j]? = ops[k + j]?) → (∀ j, j < k → listed.getD j true = true) → Region.lexFrom .any ops l.length k listed = true → LexE P call ops eff ft st' k l st →
      AnyE P call ops eff ft st' l.length listed st
  | [], _, _, _, _, _, hB, h => ⟨by simpa [Region.lexFrom] using hB, h⟩
  | o :: l, k, listed, st, hl, hlow, hB, h => by
    have h0 : ops[k]? = some o := by simpa using (hl 0).symm
    simp only [List.length_cons, Region.lexFrom, Bool.and_eq_true] at hB
    obtain ⟨⟨hr, hf⟩, hB'⟩ := hB
    simp only [LexE] at h
    refine anyE_first h0 l.length listed st (fun j oj hoj hne hun hno => ⟨Region.free_spec h0 hf j oj hoj hne hun hno, ?_⟩) (by simpa using hr) h.1 h.2.1
      (anyE_lex hD l (k + 1) _ _ (fun j => by have := hl (j + 1); simpa [Nat.add_assoc, Nat.add_comm 1 j] using this) (fun j hj => ?_) hB' h.2.2)
    · have hkj : k < j := by
        rcases Nat.lt_trichotomy j k with h' | h' | h'
        · rw [hlow j h'] at hun; cases hun
        · exact (hne h').elim
        · exact h'
      rcases hD k j o oj h0 hoj hkj with h' | h'
      · exact h'
      · simp only [tiedE, List.any_eq_true, Bool.and_eq_true, beq_iff_eq] at h'
        obtain ⟨e, he, hb, hon⟩ := h'
        exact (hno e (by simpa using he) hb hon).elim
    · by_cases hjk : j = k
      · subst hjk
        simp only [Array.getD_eq_getD_getElem?, Array.getElem?_setIfInBounds, if_true]
        split <;> simp
      · have := hlow j (by omega)
        rw [getD_set_ne true (Ne.symm hjk)]; exact this
end

section
variable {P : Program} {nt : Nat} {w0 w w' : World} {N M0 : Nat → Prop} {E : Emb} {st : St} {a : Act} {call : Call'} {ops : Array Oper} {Q : Exit → Act → World → Prop}

theorem any_ok (hcall : Keeps P call) {eff : Nat → Eff} {ft : Nat → List Nat} {st' : St} (hd : ∀ o ∈ ops.toList, ∀ t, o.dst = some t → t < nt) (hQ : ∀ a' w' E', Sim nt w0 N M0 E' st' a' w' → Q .normal a' w') :
    ∀ (fuel : Nat) (listed : Array Bool) (st : St) (E : Emb) (a : Act) (w : World), AnyE P call ops eff ft st' fuel listed st → Sim nt w0 N M0 E st a w → wpAny P .any ops Q fuel listed a w
  | 0, _, _, _, _, _, h, hs => ⟨h.1, by have := h.2; subst this; exact hQ _ _ _ hs⟩
  | fuel + 1, listed, st, E, a, w, h, hs => by
    refine ⟨fun h0 => by have := h.1 h0; subst this; exact hQ _ _ _ hs, fun i hi => ?_⟩
    obtain ⟨_, oi, hoi, _⟩ := mem_ready.1 hi
    obtain ⟨h1, h2, h3⟩ := h.2 i hi oi hoi
    unfold wpOp
    rw [hoi]
    exact stepE_ok hs hcall h1 (hd oi (by
      obtain ⟨hlt, e⟩ := Array.getElem?_eq_some_iff.1 hoi
      rw [← e]; simp)) (fun v w' E' hs' => any_ok hcall hd hQ fuel _ _ E' _ _ h3 hs')

theorem region_ok (hm : P.follows .mixedOrders = true) (hcall : Keeps P call) {st' : St} (hd : ∀ o ∈ ops.toList, ∀ t, o.dst = some t → t < nt) (hB : Region.lexB .any ops = true)
    (hr : runD P call ops [] ops.toList st = some st') (hs : Sim nt w0 N M0 E st a w) (hQ : ∀ a' w' E', Sim nt w0 N M0 E' st' a' w' → Q .normal a' w') {id : Nat} : (Code.region id ops true).wp P Q a w := by
  obtain ⟨eff, ft, hL, hD⟩ := runD_tables ops.toList [] st hr
  simp only [Region.lexB, Bool.and_eq_true] at hB
  refine wp_region_any hm ?_
  have := anyE_lex (P := P) (call := call) (ops := ops) (eff := eff) (ft := ft) (st' := st') (fun i j oi oj hi hj hij => by
    have := (hD j oj (by simpa using hj)).2 i oi (by simpa using hi) hij
    simpa using this) ops.toList 0 (Array.replicate ops.size false) st (by simp) (fun j hj => absurd hj (Nat.not_lt_zero _)) (by simpa using hB.2) hL
  have hsz : ops.toList.length = ops.size := by simp
  rw [hsz] at this
  exact any_ok hcall hd hQ _ _ _ E a _ this (hs.world rfl ⟨rfl, rfl, rfl⟩)
end
end Go.AX
