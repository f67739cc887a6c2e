/- SIDES AND BOARDS: sums, sides. Printed by program from a template. -/
import Derived.Test.YtkinlkcdjecgmaaDoorDeskB
namespace Go.AX
open Go Go.Proofs
attribute [local simp] goX_nil goX_code goX_code_exit goX_code_ret goX_blk goX_blk_ret goX_blk_exit goR_some goB_true goB_false goC_seq goC_block goC_skip goC_exit goC_ret goC_loop goC_region goC_draw goC_cond finF_ret finF_normal finK_some lpΨ_normal lpΨ_exit lpΨ_ret runE_cons runE_nil runK_some runD_cons runD_nil runDK_some runDQ_true stepE_eq stepK_true stepK_false guardE_eq guardG_none guardG_some guardJ_some guardK_bool guardK_non effV_some cellsAt_ptr cellsAt_cp cellsK_box cellsK_row loadE_eq loadK_some loadC_struct loadC_int loadC_bool loadC_str loadC_slice loadC_ptr loadC_map fieldAddrE_eq fieldQ_some fieldK_ptr fieldK_cp map_eff tK_some binE_int binE_str eqK_some binE_eql_agg binE_neq_agg binE_eql_bool binE_neq_bool binE_eql_own binE_neq_own binE_eql_nil binE_neq_nil binE_eql_sl binE_neq_sl andK_some fsK_some eqFs_nil eqFs_cons eqCell_int eqCell_bool eqCell_str callE_eq callQ_some callK_some snapsA_cons snapsA_nil snapsAK_some aggK_some snapA_agg snapA_t snapA_fn snapA_own snaps_cons snaps_nil snapsK_some snap_t snap_own snapK_row ressE_cons ressE_nil ressK_some resE_tmp vK_some resE_cell codeOf opE St.app putS putO upd moveE pickE boxE allocE buildE buildSliceE storeE cellsOf fieldE indexAddrE indexE lenE appendE srcE makeSliceE minE maxE extractE sliceE boundE strE eqE nilQ intArithE unE convE bytesT strOf flatA flatB flat1 flatT flatOb newObs renA renB renT renOb ev ofVal enterS boxCell newOb nid joinE finishE outA outB outT outOb outOb' outIds addIds baseIds refs2 refsA refs1 boxRefs hO okE_nil okE_cons okQ_true okQ_false disE_nil disE_left disE_right apE_nil apE_cons rd_contains rd_mem idsW_nil idsW_cons tiedE evParts lay placeOf frz fz1 zeros Op.operands Call.operands Region.binds intBeq intBne List.idxOf?_cons loopAt loopsOf ti2 ti3 ti4 ti5 ti9 ti21 ti22 ti23 ti24 ti25 ti26 ti27 ti28 ti29 ti30 ti31 ti34 ti35 ti36 ti37 ti38 ti39 ti55 ti68 ti85 ti86 ti89 ti100 ti103
set_option maxRecDepth 100000
set_option maxHeartbeats 2000000

theorem lsSum (l : List Int) (n : Nat) : ∀ (k : Nat) (s : Nat → AV) (o : Obs), n = l.length - k → k ≤ l.length → l.length < 9223372036854775807 → s 0 = .t (slT l) → s 4 = .t (.int .i64 k) → s 3 = .t (.int .i64 (wsum (l.take k))) →
    To (loop Tryd.prog (loopAt Tryd.f54 0) ⟨s, o⟩) (fun ex st => ex = .exit 0 ∧ st.s 3 = .t (.int .i64 (wsum l)) ∧ st.o = o) := by
  generalize hc : loopAt Tryd.f54 0 = c
  induction n with
  | zero =>
    intro k s o hn hk hl h0 h4 h3
    have hk' : k = l.length := by omega
    subst hk'
    refine loop_go hc ?_
    simp [Tryd.f54, h0, h4, h3, slT]
  | succ n ih =>
    intro k s o hn hk hl h0 h4 h3
    have hk' : k < l.length := by omega
    have hw := wrap_succ hk' (Nat.le_of_lt hl)
    have hs := wsum_take (List.getElem?_eq_getElem hk')
    refine loop_go hc ?_
    simp [Tryd.f54, h0, h4, h3, hk', hk, ints, slT, hw]
    exact ih (k + 1) _ _ (by omega) (by omega) hl (by simp [upd, h0, slT, ints]) (by simp [upd]) (by simp [upd, hs])

theorem rsSum (l : List Int) (hl : l.length < 9223372036854775807) : run Tryd.prog 54 [.t (slT l)] = some (.t (.int .i64 (wsum l)), []) := by
  refine run_go Tryd.func54 ok54 (by simp [Tryd.ntmps54]) rfl ?_
  simp [Tryd.f54]
  refine goL_of (lsSum l _ 0 _ _ rfl (by omega) hl (by simp [upd]) (by simp [upd]) (by simp [upd, wsum])) ?_
  rintro ex ⟨s, o⟩ ⟨rfl, h3, rfl⟩
  simp at h3
  simp [h3]

theorem liSum (l : List Int) (n : Nat) : ∀ (k : Nat) (s : Nat → AV) (o : Obs), n = l.length - k → k ≤ l.length → l.length < 9223372036854775807 → s 6 = .t (slT l) → s 7 = .t (.int .i64 l.length) → s 8 = .t (.int .i64 k) → s 3 = .t (.int .i64 (wsum (l.take k))) →
    To (loop Tryd.prog (loopAt Tryd.f60 0) ⟨s, o⟩) (fun ex st => ex = .exit 0 ∧ st.s 3 = .t (.int .i64 (wsum l)) ∧ st.o = o) := by
  generalize hc : loopAt Tryd.f60 0 = c
  induction n with
  | zero =>
    intro k s o hn hk hl h6 h7 h8 h3
    have hk' : k = l.length := by omega
    subst hk'
    refine loop_go hc ?_
    simp [Tryd.f60, h6, h7, h8, h3, slT]
  | succ n ih =>
    intro k s o hn hk hl h6 h7 h8 h3
    have hk' : k < l.length := by omega
    have hw := wrap_succ hk' (Nat.le_of_lt hl)
    have hs := wsum_take (List.getElem?_eq_getElem hk')
    refine loop_go hc ?_
    simp [Tryd.f60, h6, h7, h8, h3, hk', hk, ints, slT, hw]
    exact ih (k + 1) _ _ (by omega) (by omega) hl (by simp [upd, h6, slT, ints]) (by simp [upd, h7]) (by simp [upd]) (by simp [upd, hs])

theorem riSum (l : List Int) (hl : l.length < 9223372036854775807) : run Tryd.prog 60 [.t (slT l)] = some (.t (.int .i64 (wsum l)), []) := by
  refine run_go Tryd.func60 ok60 (by simp [Tryd.ntmps60]) rfl ?_
  simp [Tryd.f60, slT]
  refine goL_of (liSum l _ 0 _ _ rfl (by omega) hl (by simp [upd, slT]) (by simp [upd]) (by simp [upd]) (by simp [upd, wsum])) ?_
  rintro ex ⟨s, o⟩ ⟨rfl, h3, rfl⟩
  simp at h3
  simp [h3]

/-! ### a side -/
theorem all_take {f : Int → Bool} {l : List Int} {k : Nat} (hk : k < l.length) (h : (l.take k).all f = true) (hx : f l[k] = true) : (l.take (k + 1)).all f = true := by
  rw [List.take_add_one, List.getElem?_eq_getElem hk, List.all_append, h]
  simp [hx]
theorem all_false {f : Int → Bool} {l : List Int} {k : Nat} (hk : k < l.length) (hx : f l[k] = false) : l.all f = false := by
  rw [List.all_eq_false]
  exact ⟨l[k], List.getElem_mem hk, by simp [hx]⟩

theorem lsSide (p c h s : Int) (l : List Int) (hl : l.length < 9223372036854775807) (o : Obs) (ho : o 16 = (1, .box 34 [.t (.int .i64 p), .t (.int .i64 c), .t (.int .i64 h), .t (.int .i64 s)])) (Φ : Ex → St → Prop)
    (hT : ∀ e, l.all (fun x => inB x 0 c) = true → e 1 = .t (slT l) → e 2 = .ptr 16 1 0 → Φ (.exit 0) ⟨e, o⟩) (hF : ∀ e, l.all (fun x => inB x 0 c) = false → e 4 = .t (.bool false) → Φ .ret ⟨e, o⟩) (n : Nat) :
    ∀ (k : Nat) (e : Nat → AV), n = l.length - k → k ≤ l.length → (l.take k).all (fun x => inB x 0 c) = true → e 1 = .t (slT l) → e 2 = .ptr 16 1 0 → e 5 = .t (.int .i64 k) →
    To (loop Tryd.prog (loopAt Tryd.f53 0) ⟨e, o⟩) Φ := by
  generalize hc : loopAt Tryd.f53 0 = cd
  induction n with
  | zero =>
    intro k e hn hk ha h1 h2 h5
    have hk' : k = l.length := by omega
    subst hk'
    rw [List.take_length] at ha
    refine loop_go hc ?_
    simp [Tryd.f53, h1, h2, h5, slT]
    exact hT _ ha (by simp [upd, h1, slT]) (by simp [upd, h2])
  | succ n ih =>
    intro k e hn hk ha h1 h2 h5
    have hk' : k < l.length := by omega
    have hw := wrap_succ hk' (Nat.le_of_lt hl)
    refine loop_go hc ?_
    cases hb : inB l[k] 0 c
    · simp [Tryd.f53, h1, h2, h5, ho, hk', hk, ints, slT, hw, rIn, hb]
      exact hF _ (all_false hk' hb) (by simp [upd])
    · simp [Tryd.f53, h1, h2, h5, ho, hk', hk, ints, slT, hw, rIn, hb]
      exact ih (k + 1) _ (by omega) (by omega) (all_take hk' ha hb) (by simp [upd, h1, slT, ints]) (by simp [upd, h2]) (by simp [upd])

def sideB (p c : Int) (l : List Int) : Bool := decide ((l.length : Int) = IntKind.i64.wrap (p + 1)) && (l.all (fun x => inB x 0 c) && decide (wsum l ≤ c))
theorem rsSide (p c h s : Int) (l : List Int) (hl : l.length < 9223372036854775807) : run Tryd.prog 53 [vA p c h s, .t (slT l)] = some (.t (.bool (sideB p c l)), []) := by
  refine run_go Tryd.func53 ok53 (by simp [Tryd.ntmps53]) rfl ?_
  have hsum := rsSum l hl
  by_cases h1 : (l.length : Int) = IntKind.i64.wrap (p + 1)
  · simp [Tryd.f53, vA, slT, ← h1]
    refine lsSide p c h s l hl _ (by simp [upd]) _ (fun e ha e1 e2 => ?_) (fun e ha e4 => ?_) _ 0 _ rfl (by omega) (by simp) (by simp [upd, slT]) (by simp [upd]) (by simp [upd])
    · simp [Tryd.f53, e1, e2, hsum, slT, ← h1, sideB, ha]
      simp [slT] at hsum
      simp [Tryd.f53, e1, e2, hsum, slT, ← h1, sideB, ha]
    · simp [Tryd.f53, e4, ← h1, sideB, ha]
  · simp [Tryd.f53, vA, slT, h1, sideB]
end Go.AX
