/- THE LAW's OWN FUNCTIONS for lists of numbers and boards. Printed by program from a template. -/
import Derived.Test.YtkinlkcdjecgmaaDoorDeskQ
namespace Go.AX
open Go Go.Proofs
attribute [local simp] goX_nil goX_code goX_code_exit goX_code_ret goX_blk goX_blk_ret goX_blk_exit goR_some goB_true goB_false goC_seq goC_block goC_skip goC_exit goC_ret goC_loop goC_region goC_draw goC_cond finF_ret finF_normal finK_some lpΨ_normal lpΨ_exit lpΨ_ret runE_cons runE_nil runK_some runD_cons runD_nil runDK_some runDQ_true stepE_eq stepK_true stepK_false guardE_eq guardG_none guardG_some guardJ_some guardK_bool guardK_non effV_some cellsAt_ptr cellsAt_cp cellsK_box cellsK_row loadE_eq loadK_some loadC_struct loadC_int loadC_bool loadC_str loadC_slice loadC_ptr loadC_map fieldAddrE_eq fieldQ_some fieldK_ptr fieldK_cp map_eff tK_some binE_int binE_str eqK_some binE_eql_agg binE_neq_agg binE_eql_bool binE_neq_bool binE_eql_own binE_neq_own binE_eql_nil binE_neq_nil binE_eql_sl binE_neq_sl andK_some fsK_some eqFs_nil eqFs_cons eqCell_int eqCell_bool eqCell_str callE_eq callQ_some callK_some snapsA_cons snapsA_nil snapsAK_some aggK_some snapA_agg snapA_t snapA_fn snapA_own snaps_cons snaps_nil snapsK_some snap_t snap_own snapK_row ressE_cons ressE_nil ressK_some resE_tmp vK_some resE_cell codeOf opE St.app putS putO upd moveE pickE boxE allocE buildE buildSliceE storeE cellsOf fieldE indexAddrE indexE lenE appendE srcE makeSliceE minE maxE extractE sliceE boundE strE eqE nilQ intArithE unE convE bytesT strOf flatA flatB flat1 flatT flatOb newObs renA renB renT renOb ev ofVal enterS boxCell newOb nid joinE finishE outA outB outT outOb outOb' outIds addIds baseIds refs2 refsA refs1 boxRefs hO okE_nil okE_cons okQ_true okQ_false disE_nil disE_left disE_right apE_nil apE_cons rd_contains rd_mem idsW_nil idsW_cons tiedE evParts lay placeOf frz fz1 zeros Op.operands Call.operands Region.binds intBeq intBne List.idxOf?_cons loopAt loopsOf ti2 ti3 ti4 ti5 ti9 ti21 ti22 ti23 ti24 ti25 ti26 ti27 ti28 ti29 ti30 ti31 ti34 ti35 ti36 ti37 ti38 ti39 ti55 ti68 ti85 ti86 ti89 ti100 ti103
set_option maxRecDepth 100000
set_option maxHeartbeats 4000000

/-- A slice argument of numbers, whichever way it is given. -/
def IsL (x : T) (l : List Int) : Prop := (l = [] ∧ (x = .nil ∨ x = .em)) ∨ (l ≠ [] ∧ x = slT l)

theorem rlSzL {x : T} {l : List Int} (hx : IsL x l) (hl : l.length ≤ 9223372036854775807) (left : Int) (h0 : 0 ≤ left ∧ left ≤ 1048576) :
    ∃ r, run Tryd.prog 31 [.t x, .t (.int .i64 left)] = some (.t (.int .i64 r), []) ∧ (r = -1 ∨ (r = left - l.length ∧ 0 ≤ r)) := by
  have hw : IntKind.i64.wrap (left - (l.length : Int)) = left - (l.length : Int) := wrap64 (by omega)
  have hw0 : IntKind.i64.wrap left = left := wrap64 (by omega)
  by_cases h : left - (l.length : Int) < 0
  · refine ⟨-1, ?_, .inl rfl⟩
    refine run_go Tryd.func31 ok31 (by simp [Tryd.ntmps31]) rfl ?_
    rcases hx with ⟨rfl, rfl | rfl⟩ | ⟨hne, rfl⟩
    · simp at h; omega
    · simp at h; omega
    · simp [Tryd.f31, slT, hw, h]
  · refine ⟨left - l.length, ?_, .inr ⟨rfl, by omega⟩⟩
    refine run_go Tryd.func31 ok31 (by simp [Tryd.ntmps31]) rfl ?_
    have h0' : ¬ left < 0 := by omega
    rcases hx with ⟨rfl, rfl | rfl⟩ | ⟨hne, rfl⟩
    · simp [Tryd.f31, hw0, h0']
    · simp [Tryd.f31, hw0, h0']
    · simp [Tryd.f31, slT, hw, h]

theorem rlSzB {x y : T} {l m : List Int} (hx : IsL x l) (hy : IsL y m) (hl : l.length ≤ 9223372036854775807) (hm : m.length ≤ 9223372036854775807) (left : Int) (h0 : 0 ≤ left ∧ left ≤ 1048576) :
    ∃ r, run Tryd.prog 9 [.agg [.t x, .t y], .t (.int .i64 left)] = some (.t (.int .i64 r), []) ∧ (r = -1 ∨ (r = left - l.length - m.length ∧ 0 ≤ r)) := by
  obtain ⟨r1, h1, hr1⟩ := rlSzL hx hl left h0
  rcases hr1 with rfl | ⟨hr1, hr2⟩
  · refine ⟨-1, ?_, .inl rfl⟩
    refine run_go Tryd.func9 ok9 (by simp [Tryd.ntmps9]) rfl ?_
    simp [Tryd.f9, h1]
  · obtain ⟨r2, h2, hr3⟩ := rlSzL hy hm r1 (by omega)
    have n1 : ¬ r1 < 0 := by omega
    rcases hr3 with rfl | ⟨hr3, hr4⟩
    · refine ⟨-1, ?_, .inl rfl⟩
      refine run_go Tryd.func9 ok9 (by simp [Tryd.ntmps9]) rfl ?_
      simp [Tryd.f9, h1, h2, n1]
    · refine ⟨r2, ?_, .inr ⟨by omega, hr4⟩⟩
      have n2 : ¬ r2 < 0 := by omega
      refine run_go Tryd.func9 ok9 (by simp [Tryd.ntmps9]) rfl ?_
      simp [Tryd.f9, h1, h2, n1, n2]

theorem rlToVariant (p c h s : Int) : run Tryd.prog 17 [vA p c h s] = some (vA p c h s, []) := by
  refine run_go Tryd.func17 ok17 (by simp [Tryd.ntmps17]) rfl ?_
  simp [Tryd.f17, vA]
theorem rlToRoll (a b : Int) : run Tryd.prog 19 [rA a b] = some (rA a b, []) := by
  refine run_go Tryd.func19 ok19 (by simp [Tryd.ntmps19]) rfl ?_
  simp [Tryd.f19, rA]

theorem llToL (x : T) (l : List Int) (hl : l.length ≤ 1048576) (hx : x = slT l) (Φ : Ex → St → Prop)
    (hT : ∀ e o, e 3 = .own 56 1 → o 56 = (1, .row false true 2 1 l.length (ints l)) → Φ (.exit 0) ⟨e, o⟩) (n : Nat) :
    ∀ (k : Nat) (e : Nat → AV) (o : Obs), n = l.length - k → k ≤ l.length → e 0 = .t (slT l) → e 3 = .own 56 1 → e 4 = .t (.int .i64 k) →
    o 56 = (1, .row false true 2 1 l.length (ints (l.take k) ++ List.replicate (l.length - k) (.int .i64 0))) →
    To (loop Tryd.prog (loopAt Tryd.f41 0) ⟨e, o⟩) Φ := by
  generalize hc : loopAt Tryd.f41 0 = cd
  induction n with
  | zero =>
    intro k e o hn hk h0 h3 h4 ho
    have hk' : k = l.length := by omega
    subst hk'
    refine loop_go hc ?_
    simp [Tryd.f41, h0, h4, slT]
    exact hT _ _ (by simp [upd, h3]) (by simpa using ho)
  | succ n ih =>
    intro k e o hn hk h0 h3 h4 ho
    have hk' : k < l.length := by omega
    have hw := wrap_succ hk' (show l.length ≤ 9223372036854775807 by omega)
    have hlen : (ints (l.take k)).length = k := by simp [ints]; omega
    have hle : k + 1 ≤ k + (l.length - k) := by omega
    refine loop_go hc ?_
    simp [Tryd.f41, hlen, hle, Nat.succ_le_of_lt hk', h0, h3, h4, ho, slT, ints, hk', hk, hw]
    have he : ints (l.take k) ++ T.int .i64 l[k] :: List.drop (k + 1) (ints (l.take k) ++ List.replicate (l.length - k) (.int .i64 0)) = ints (l.take (k + 1)) ++ List.replicate (l.length - (k + 1)) (.int .i64 0) := by
      rw [List.drop_append, hlen, List.drop_of_length_le (by omega), List.nil_append, List.drop_replicate, List.take_add_one, List.getElem?_eq_getElem hk']
      simp only [ints, List.map_append, Option.toList_some, List.map_cons, List.map_nil, List.append_assoc, List.cons_append, List.nil_append]
      congr 3; omega
    simp only [ints, List.map_take] at he
    exact ih (k + 1) _ _ (by omega) (by omega) (by simp [upd, h0, slT, ints]) (by simp [upd, h3]) (by simp [upd]) (by simp only [upd, if_true, ints, List.map_take, he])

theorem zeros_eq (x : T) : ∀ n, zeros [x] n = List.replicate n x
  | 0 => rfl
  | n + 1 => by simp [zeros, zeros_eq x n, List.replicate_succ]
theorem rlToL {x : T} {l : List Int} (hx : IsL x l) (hl : l.length ≤ 1048576) : run Tryd.prog 41 [.t x] = some (.own 0 0, [.row false true 2 1 l.length (ints l)]) := by
  refine run_go Tryd.func41 ok41 (by simp [Tryd.ntmps41]) rfl ?_
  rcases hx with ⟨rfl, rfl | rfl⟩ | ⟨hne, rfl⟩
  · simp [Tryd.f41]
    refine loop_go rfl ?_
    simp [Tryd.f41, ints]
  · simp [Tryd.f41]
    refine loop_go rfl ?_
    simp [Tryd.f41, ints]
  · have hb : (l.length : Int) * 8 ≤ 140737488355328 := by omega
    have hb2 : (l.length : Int) ≤ 140737488355328 := by omega
    have hz := zeros_eq (.int .i64 0) l.length
    simp [Tryd.f41, slT, hb, hb2]
    refine goL_of (llToL _ l hl rfl _ (fun e o e3 ho => ?_) _ 0 _ _ rfl (by omega) (by simp [upd, slT]) (by simp [upd]) (by simp [upd]) (by simp [upd, ints, ← hz, zeros])) (fun _ _ h => h)
    simp [Tryd.f41, e3, ho]

theorem rlToBoard {x y : T} {l m : List Int} (hx : IsL x l) (hy : IsL y m) (hl : l.length ≤ 1048576) (hm : m.length ≤ 1048576) :
    run Tryd.prog 18 [.agg [.t x, .t y]] = some (.agg [.own 0 0, .own 1 0], [.row false true 2 1 l.length (ints l), .row false true 2 1 m.length (ints m)]) := by
  have h1 := rlToL hx hl
  have h2 := rlToL hy hm
  refine run_go Tryd.func18 ok18 (by simp [Tryd.ntmps18]) rfl ?_
  simp [Tryd.f18, h1, h2]

/-! ### equality with itself -/
theorem rlEqVariant (p c h s : Int) : run Tryd.prog 27 [vA p c h s, vA p c h s] = some (.t (.bool true), []) := by
  refine run_go Tryd.func27 ok27 (by simp [Tryd.ntmps27]) rfl ?_
  simp [Tryd.f27, vA]
theorem rlEqRoll (a b : Int) : run Tryd.prog 29 [rA a b, rA a b] = some (.t (.bool true), []) := by
  refine run_go Tryd.func29 ok29 (by simp [Tryd.ntmps29]) rfl ?_
  simp [Tryd.f29, rA]
theorem llEqL (l : List Int) (hl : l.length < 9223372036854775807) (o : Obs) (Φ : Ex → St → Prop) (hT : ∀ e, Φ (.exit 0) ⟨e, o⟩) (n : Nat) :
    ∀ (k : Nat) (e : Nat → AV), n = l.length - k → k ≤ l.length → e 0 = .t (slT l) → e 1 = .t (slT l) → e 5 = .t (.int .i64 k) → To (loop Tryd.prog (loopAt Tryd.f52 0) ⟨e, o⟩) Φ := by
  generalize hc : loopAt Tryd.f52 0 = cd
  induction n with
  | zero =>
    intro k e hn hk h0 h1 h5
    have hk' : k = l.length := by omega
    subst hk'
    refine loop_go hc ?_
    simp [Tryd.f52, h0, h5, slT]
    exact hT _
  | succ n ih =>
    intro k e hn hk h0 h1 h5
    have hk' : k < l.length := by omega
    have hw := wrap_succ hk' (Nat.le_of_lt hl)
    refine loop_go hc ?_
    simp [Tryd.f52, h0, h1, h5, hk', hk, ints, slT, hw]
    exact ih (k + 1) _ (by omega) (by omega) (by simp [upd, h0, slT, ints]) (by simp [upd, h1, slT, ints]) (by simp [upd])
theorem rlEqL (l : List Int) (hl : l.length < 9223372036854775807) : run Tryd.prog 52 [.t (slT l), .t (slT l)] = some (.t (.bool true), []) := by
  refine run_go Tryd.func52 ok52 (by simp [Tryd.ntmps52]) rfl ?_
  simp [Tryd.f52, slT]
  refine goL_of (llEqL l hl _ _ (fun e => ?_) _ 0 _ rfl (by omega) (by simp [upd, slT]) (by simp [upd, slT]) (by simp [upd])) (fun _ _ h => h)
  simp [Tryd.f52]
theorem rlEqBoard (l m : List Int) (hl : l.length < 9223372036854775807) (hm : m.length < 9223372036854775807) : run Tryd.prog 28 [bA l m, bA l m] = some (.t (.bool true), []) := by
  have h1 := rlEqL l hl
  have h2 := rlEqL m hm
  refine run_go Tryd.func28 ok28 (by simp [Tryd.ntmps28]) rfl ?_
  simp [Tryd.f28, bA, h1, h2]
end Go.AX
