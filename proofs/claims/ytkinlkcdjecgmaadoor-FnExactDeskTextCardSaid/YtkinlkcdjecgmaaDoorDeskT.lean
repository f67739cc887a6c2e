/- DESKS of the law; THE LAW ITSELF. Printed by program from a template. -/
import Derived.Test.YtkinlkcdjecgmaaDoorDeskS
namespace Go.AX
open Go Go.Proofs
attribute [local simp] goX_nil goX_code goX_code_exit goX_code_ret goX_blk goX_blk_ret goX_blk_exit goR_some goB_true goB_false goC_seq goC_block goC_skip goC_exit goC_ret goC_loop goC_region goC_draw goC_cond finF_ret finF_normal finK_some lpΨ_normal lpΨ_exit lpΨ_ret runE_cons runE_nil runK_some runD_cons runD_nil runDK_some runDQ_true stepE_eq stepK_true stepK_false guardE_eq guardG_none guardG_some guardJ_some guardK_bool guardK_non effV_some cellsAt_ptr cellsAt_cp cellsK_box cellsK_row loadE_eq loadK_some loadC_struct loadC_int loadC_bool loadC_str loadC_slice loadC_ptr loadC_map fieldAddrE_eq fieldQ_some fieldK_ptr fieldK_cp map_eff tK_some binE_int binE_str eqK_some binE_eql_agg binE_neq_agg binE_eql_bool binE_neq_bool binE_eql_own binE_neq_own binE_eql_nil binE_neq_nil binE_eql_sl binE_neq_sl andK_some fsK_some eqFs_nil eqFs_cons eqCell_int eqCell_bool eqCell_str callE_eq callQ_some callK_some snapsA_cons snapsA_nil snapsAK_some aggK_some snapA_agg snapA_t snapA_fn snapA_own snaps_cons snaps_nil snapsK_some snap_t snap_own snapK_row ressE_cons ressE_nil ressK_some resE_tmp vK_some resE_cell codeOf opE St.app putS putO upd moveE pickE boxE allocE buildE buildSliceE storeE cellsOf fieldE indexAddrE indexE lenE appendE srcE makeSliceE minE maxE extractE sliceE boundE strE eqE nilQ intArithE unE convE bytesT strOf flatA flatB flat1 flatT flatOb newObs renA renB renT renOb ev ofVal enterS boxCell newOb nid joinE finishE outA outB outT outOb outOb' outIds addIds baseIds refs2 refsA refs1 boxRefs hO okE_nil okE_cons okQ_true okQ_false disE_nil disE_left disE_right apE_nil apE_cons rd_contains rd_mem idsW_nil idsW_cons tiedE evParts lay placeOf frz fz1 zeros Op.operands Call.operands Region.binds intBeq intBne List.idxOf?_cons loopAt loopsOf ti2 ti3 ti4 ti5 ti9 ti21 ti22 ti23 ti24 ti25 ti26 ti27 ti28 ti29 ti30 ti31 ti34 ti35 ti36 ti37 ti38 ti39 ti55 ti68 ti85 ti86 ti89 ti100 ti103
set_option maxRecDepth 100000
set_option maxHeartbeats 4000000

theorem pastC_append (a b : List Bd) : pastC (a ++ b) = pastC a ++ pastC b := by simp [pastC]
theorem zeros_length (ze : List T) : ∀ n, (zeros ze n).length = n * ze.length
  | 0 => by simp [zeros]
  | n + 1 => by simp [zeros, zeros_length ze n, Nat.succ_mul]; omega
theorem zeros_drop (ze : List T) (n : Nat) : (zeros ze (n + 1)).drop ze.length = zeros ze n := by simp [zeros]

theorem llToP (L : List AB) (hL : ∀ q ∈ L, okAB q) (hl : L.length ≤ 1048576) (hs : ∀ q ∈ L, q.1.2.length ≤ 1048576 ∧ q.2.2.length ≤ 1048576) (Φ : Ex → St → Prop)
    (hT : ∀ e o, e 3 = .own 56 1 → o 56 = (1, .row false true 35 2 L.length (pastC (abB L))) → Φ (.exit 0) ⟨e, o⟩) (n : Nat) :
    ∀ (k : Nat) (e : Nat → AV) (o : Obs), n = L.length - k → k ≤ L.length → e 0 = .t (.sl L.length (abC L)) → e 3 = .own 56 1 → e 4 = .t (.int .i64 k) →
    o 56 = (1, .row false true 35 2 L.length (pastC (abB (L.take k)) ++ zeros [.nil, .nil] (L.length - k))) →
    To (loop Tryd.prog (loopAt Tryd.f20 0) ⟨e, o⟩) Φ := by
  generalize hc : loopAt Tryd.f20 0 = cd
  induction n with
  | zero =>
    intro k e o hn hk h0 h3 h4 ho
    have hk' : k = L.length := by omega
    subst hk'
    rw [List.take_length, Nat.sub_self, zeros, List.append_nil] at ho
    refine loop_go hc ?_
    simp [Tryd.f20, h0, h4]
    exact hT _ _ (by simp [upd, h3]) ho
  | succ n ih =>
    intro k e o hn hk h0 h3 h4 ho
    have hk' : k < L.length := by omega
    have hw := wrap_succ hk' (show L.length ≤ 9223372036854775807 by omega)
    have hlen := abC_length L
    have hd := abC_drop hk'
    have h2l : k * 2 ≤ L.length * 2 := by omega
    obtain ⟨o1, o2, o3, o4⟩ := hL L[k] (List.getElem_mem hk')
    obtain ⟨s1, s2⟩ := hs L[k] (List.getElem_mem hk')
    have hb := rlToBoard o1 o2 s1 s2
    have hpl : (pastC (abB (L.take k))).length = k * 2 := by rw [pastC_length]; simp [abB]; omega
    have hcl : (pastC (abB (L.take k)) ++ zeros [.nil, .nil] (L.length - k)).length = L.length * 2 := by
      rw [List.length_append, hpl, zeros_length]; simp; omega
    have h2k : k * 2 + 2 ≤ L.length * 2 := by omega
    have htk : (pastC (abB (L.take k)) ++ zeros [.nil, .nil] (L.length - k)).take (k * 2) = pastC (abB (L.take k)) := by
      rw [← hpl]; exact List.take_left
    have hdr : (pastC (abB (L.take k)) ++ zeros [.nil, .nil] (L.length - k)).drop (k * 2 + 2) = zeros [.nil, .nil] (L.length - (k + 1)) := by
      rw [← hpl, List.drop_length_add_append, show L.length - k = (L.length - (k + 1)) + 1 from by omega]
      exact zeros_drop [.nil, .nil] _
    have hfull : pastC (abB (L.take (k + 1))) = pastC (abB (L.take k)) ++ [slT L[k].1.2, slT L[k].2.2] := by
      rw [List.take_add_one, List.getElem?_eq_getElem hk']
      unfold abB
      rw [List.map_append, pastC_append]; simp [pastC]
    generalize hcs : pastC (abB (L.take k)) ++ zeros [.nil, .nil] (L.length - k) = cs at ho hcl htk hdr
    refine loop_go hc ?_
    simp [Tryd.f20, h0, h3, h4, ho, hk', hk, h2l, hlen, hd, hb, hw, hcl, h2k, htk, hdr]
    refine ih (k + 1) _ _ (by omega) (by omega) (by simp [upd, h0]) (by simp [upd, h3]) (by simp [upd]) ?_
    simp [upd, hfull, slT]

theorem rlToP {x : T} {L : List AB} (hx : IsP x L) (hL : ∀ q ∈ L, okAB q) (hl : L.length ≤ 1048576) (hs : ∀ q ∈ L, q.1.2.length ≤ 1048576 ∧ q.2.2.length ≤ 1048576) :
    run Tryd.prog 20 [.t x] = some (.own 0 0, [.row false true 35 2 L.length (pastC (abB L))]) := by
  refine run_go Tryd.func20 ok20 (by simp [Tryd.ntmps20]) rfl ?_
  rcases hx with ⟨rfl, rfl | rfl⟩ | ⟨hne, rfl⟩
  · simp [Tryd.f20]
    refine loop_go rfl ?_
    simp [Tryd.f20, pastC, abB]
  · simp [Tryd.f20]
    refine loop_go rfl ?_
    simp [Tryd.f20, pastC, abB]
  · have hb : (L.length : Int) * 48 ≤ 140737488355328 := by omega
    have hb2 : (L.length : Int) ≤ 140737488355328 := by omega
    simp [Tryd.f20, hb, hb2]
    refine goL_of (llToP L hL hl hs _ (fun e o e3 ho => ?_) _ 0 _ _ rfl (by omega) (by simp [upd]) (by simp [upd]) (by simp [upd]) (by simp [upd, pastC, abB, zeros])) (fun _ _ h => h)
    simp [Tryd.f20, e3, ho]

theorem rlToDesk (p c h s : Int) {X Y Z : T} {x y : List Int} {L : List AB} (a b seed : Int) (hx : IsL X x) (hy : IsL Y y) (hz : IsP Z L) (hL : ∀ q ∈ L, okAB q) (hxl : x.length ≤ 1048576) (hyl : y.length ≤ 1048576) (hl : L.length ≤ 1048576) (hs : ∀ q ∈ L, q.1.2.length ≤ 1048576 ∧ q.2.2.length ≤ 1048576) :
    run Tryd.prog 6 [dArg p c h s X Y a b seed Z] = some (.agg [.t (.int .i64 p), .t (.int .i64 c), .t (.int .i64 h), .t (.int .i64 s), .own 0 0, .own 1 0, .t (.int .i64 a), .t (.int .i64 b), .t (.int .i64 seed), .own 2 0],
      [.row false true 2 1 x.length (ints x), .row false true 2 1 y.length (ints y), .row false true 35 2 L.length (pastC (abB L))]) := by
  have h1 := rlToVariant p c h s
  have h2 := rlToBoard hx hy hxl hyl
  have h3 := rlToRoll a b
  have h4 := rlToP hz hL hl hs
  simp [vA] at h1
  simp [rA] at h3
  refine run_go Tryd.func6 ok6 (by simp [Tryd.ntmps6]) rfl ?_
  simp [Tryd.f6, dArg, h1, h2, h3, h4]

theorem llEqP (l : List Bd) (hl : l.length < 9223372036854775807) (hs : ∀ q ∈ l, short q.1 ∧ short q.2) (Φ : Ex → St → Prop) (hT : ∀ e o, Φ (.exit 0) ⟨e, o⟩) (n : Nat) :
    ∀ (k : Nat) (e : Nat → AV) (o : Obs), n = l.length - k → k ≤ l.length → e 0 = .t (pastT l) → e 1 = .t (pastT l) → e 5 = .t (.int .i64 k) → To (loop Tryd.prog (loopAt Tryd.f30 0) ⟨e, o⟩) Φ := by
  generalize hc : loopAt Tryd.f30 0 = cd
  induction n with
  | zero =>
    intro k e o hn hk h0 h1 h5
    have hk' : k = l.length := by omega
    subst hk'
    refine loop_go hc ?_
    simp [Tryd.f30, h0, h5, pastT]
    exact hT _ _
  | succ n ih =>
    intro k e o hn hk h0 h1 h5
    have hk' : k < l.length := by omega
    have hw := wrap_succ hk' (Nat.le_of_lt hl)
    have hlen := pastC_length l
    have hd := pastC_drop hk'
    have hq := hs l[k] (List.getElem_mem hk')
    have hb := rlEqBoard l[k].1 l[k].2 hq.1 hq.2
    have h2l : k * 2 ≤ l.length * 2 := by omega
    simp [bA] at hb
    refine loop_go hc ?_
    simp [Tryd.f30, h0, h1, h5, pastT, hk', hk, h2l, hlen, hd, hb, hw]
    exact ih (k + 1) _ _ (by omega) (by omega) (by simp [upd, h0, pastT]) (by simp [upd, h1, pastT]) (by simp [upd])
theorem rlEqP (l : List Bd) (hl : l.length < 9223372036854775807) (hs : ∀ q ∈ l, short q.1 ∧ short q.2) : run Tryd.prog 30 [.t (pastT l), .t (pastT l)] = some (.t (.bool true), []) := by
  refine run_go Tryd.func30 ok30 (by simp [Tryd.ntmps30]) rfl ?_
  simp [Tryd.f30, pastT]
  refine goL_of (llEqP l hl hs _ (fun e o => ?_) _ 0 _ _ rfl (by omega) (by simp [upd, pastT]) (by simp [upd, pastT]) (by simp [upd])) (fun _ _ h => h)
  simp [Tryd.f30]
theorem rlEqDesk (p c h s : Int) (x y : List Int) (a b seed : Int) (l : List Bd) (hx : short x) (hy : short y) (hl : l.length < 9223372036854775807) (hs : ∀ q ∈ l, short q.1 ∧ short q.2) :
    run Tryd.prog 8 [.agg (dL p c h s x y a b seed l), .agg (dL p c h s x y a b seed l)] = some (.t (.bool true), []) := by
  have h1 := rlEqVariant p c h s
  have h2 := rlEqBoard x y hx hy
  have h3 := rlEqRoll a b
  have h4 := rlEqP l hl hs
  simp [vA] at h1
  simp [bA] at h2
  simp [rA] at h3
  refine run_go Tryd.func8 ok8 (by simp [Tryd.ntmps8]) rfl ?_
  simp [Tryd.f8, dL, h1, h2, h3, h4]

theorem rlDeskText (p c h s : Int) {X Y Z : T} {x y : List Int} {L : List AB} (a b seed : Int) (hx : IsL X x) (hy : IsL Y y) (hz : IsP Z L) (hL : ∀ q ∈ L, okAB q) (hxl : x.length ≤ 9223372036854775807) (hyl : y.length ≤ 9223372036854775807) (hl : L.length ≤ 9223372036854775807) :
    run Tryd.prog 3 [dArg p c h s X Y a b seed Z] = some (.t (.bool true), []) := by
  obtain ⟨r, hr, hrb⟩ := rlSzDesk p c h s a b seed hx hy hz hL hxl hyl hl
  by_cases hneg : r < 0
  · simp [dArg] at hr
    refine run_go Tryd.func3 ok3 (by simp [Tryd.ntmps3]) rfl ?_
    simp [Tryd.f3, dArg, hr, hneg]
  · obtain ⟨-, q1, q2, q3, q4⟩ := hrb.resolve_left hneg
    have hd := rlToDesk p c h s a b seed hx hy hz hL q1 q2 q3 q4
    have hs : ∀ q ∈ abB L, short q.1 ∧ short q.2 := by
      intro q hq
      simp only [abB, List.mem_map] at hq
      obtain ⟨z, hz1, rfl⟩ := hq
      have := q4 z hz1
      unfold short
      simp only
      omega
    have sx : short x := by unfold short; omega
    have sy : short y := by unfold short; omega
    have e1 := rsDeskText p c h s x y a b seed (abB L) sx sy hs
    have e2 := riDeskText p c h s x y a b seed (abB L) sx sy hs
    have e3 := rlEqDesk p c h s x y a b seed (abB L) sx sy (by simp [abB]; omega) hs
    have hll : (abB L).length = L.length := by simp [abB]
    simp [dL, pastT, slT, hll] at e1 e2 e3
    simp [dArg] at hr hd
    generalize (if deskS p c h s x y a b seed (abB L) = true then deskT p c h s x y a b seed L.length else ⟨#[]⟩ : ByteArray) = w at e1 e2
    refine run_go Tryd.func3 ok3 (by simp [Tryd.ntmps3]) rfl ?_
    simp [Tryd.f3, dArg, hr, hneg, hd, e1, e2, e3]
end Go.AX
