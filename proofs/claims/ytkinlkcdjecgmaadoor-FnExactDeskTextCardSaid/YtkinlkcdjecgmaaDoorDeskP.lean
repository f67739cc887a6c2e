/- IDENTIFIERS OF BOARDS (both functions BoardId). Printed by program from a template. -/
import Derived.Test.YtkinlkcdjecgmaaDoorDeskO
namespace Go.AX
open Go Go.Proofs
attribute [local simp] goX_nil goX_code goX_code_exit goX_code_ret goX_blk goX_blk_ret goX_blk_exit goR_some goB_true goB_false goC_seq goC_block goC_skip goC_exit goC_ret goC_loop goC_region goC_draw goC_cond finF_ret finF_normal finK_some lpΨ_normal lpΨ_exit lpΨ_ret runE_cons runE_nil runK_some runD_cons runD_nil runDK_some runDQ_true stepE_eq stepK_true stepK_false guardE_eq guardG_none guardG_some guardJ_some guardK_bool guardK_non effV_some cellsAt_ptr cellsAt_cp cellsK_box cellsK_row loadE_eq loadK_some loadC_struct loadC_int loadC_bool loadC_str loadC_slice loadC_ptr loadC_map fieldAddrE_eq fieldQ_some fieldK_ptr fieldK_cp map_eff tK_some binE_int binE_str eqK_some binE_eql_agg binE_neq_agg binE_eql_bool binE_neq_bool binE_eql_own binE_neq_own binE_eql_nil binE_neq_nil binE_eql_sl binE_neq_sl andK_some fsK_some eqFs_nil eqFs_cons eqCell_int eqCell_bool eqCell_str callE_eq callQ_some callK_some snapsA_cons snapsA_nil snapsAK_some aggK_some snapA_agg snapA_t snapA_fn snapA_own snaps_cons snaps_nil snapsK_some snap_t snap_own snapK_row ressE_cons ressE_nil ressK_some resE_tmp vK_some resE_cell codeOf opE St.app putS putO upd moveE pickE boxE allocE buildE buildSliceE storeE cellsOf fieldE indexAddrE indexE lenE appendE srcE makeSliceE minE maxE extractE sliceE boundE strE eqE nilQ intArithE unE convE bytesT strOf flatA flatB flat1 flatT flatOb newObs renA renB renT renOb ev ofVal enterS boxCell newOb nid joinE finishE outA outB outT outOb outOb' outIds addIds baseIds refs2 refsA refs1 boxRefs hO okE_nil okE_cons okQ_true okQ_false disE_nil disE_left disE_right apE_nil apE_cons rd_contains rd_mem idsW_nil idsW_cons tiedE evParts lay placeOf frz fz1 zeros Op.operands Call.operands Region.binds intBeq intBne List.idxOf?_cons loopAt loopsOf ti2 ti3 ti4 ti5 ti9 ti21 ti22 ti23 ti24 ti25 ti26 ti27 ti28 ti29 ti30 ti31 ti34 ti35 ti36 ti37 ti38 ti39 ti55 ti68 ti85 ti86 ti89 ti100 ti103
set_option maxRecDepth 100000
set_option maxHeartbeats 4000000

theorem board_small {p c h s : Int} {x y : List Int} (hb : boardS p c h s x y = true) : smallL x ∧ smallL y ∧ x ≠ [] := by
  simp only [boardS, Bool.and_eq_true] at hb
  obtain ⟨hv, hx, hy, _⟩ := hb
  obtain ⟨q, rfl, hq2, hq⟩ := var_nat hv
  have lx := side_len hq hx
  have ly := side_len hq hy
  have hc : c ≤ 15 := by simp [isVar, inB] at hv; omega
  simp only [sideB, Bool.and_eq_true, List.all_eq_true] at hx hy
  refine ⟨⟨by omega, fun z hz => ?_⟩, ⟨by omega, fun z hz => ?_⟩, ?_⟩
  · have := hx.2.1 z hz; simp [inB] at this; omega
  · have := hy.2.1 z hz; simp [inB] at this; omega
  · intro h; subst h; simp at lx
def idB (x y : List Int) : ByteArray := idT (bitsL (x ++ y)) (((bitsL (x ++ y)).length + 5) / 6)
def boardId (p c h s : Int) (x y : List Int) : ByteArray := if boardS p c h s x y then idB x y else ⟨#[]⟩
theorem bits_short {x y : List Int} (hx : smallL x) (hy : smallL y) : (bitsL (x ++ y)).length ≤ 800 := by
  have h : ∀ z ∈ x ++ y, 0 ≤ z ∧ z ≤ 15 := by
    intro z hz
    rcases List.mem_append.1 hz with h | h
    · exact hx.2 z h
    · exact hy.2 z h
  have h1 := bitsL_len h
  have h2 := hx.1
  have h3 := hy.1
  simp only [List.length_append] at h1; omega

theorem rsBoardId (p c h s : Int) (x y : List Int) (hx : x.length < 9223372036854775807) (hy : y.length < 9223372036854775807) :
    run Tryd.prog 15 [vA p c h s, bA x y] = some (.t (.str (boardId p c h s x y)), []) := by
  have hb := rsBoard p c h s x y hx hy
  refine run_go Tryd.func15 ok15 (by simp [Tryd.ntmps15]) rfl ?_
  cases h1 : boardS p c h s x y
  · rw [h1] at hb
    simp [vA, bA] at hb
    simp [Tryd.f15, vA, bA, hb, boardId, h1]
  · rw [h1] at hb
    obtain ⟨sx, sy, hne⟩ := board_small h1
    have hbits := rsBits x y sx sy
    have hid := rsId (bitsL (x ++ y)) (by have := bits_short sx sy; omega) (bitsL_01 _)
    simp [vA, bA] at hb hbits
    simp [slT] at hid
    simp [Tryd.f15, vA, bA, hb, hbits, hid, boardId, h1, idB, ints_length]

theorem liPad (l : List Int) (hl : l.length ≤ 2000) (Φ : Ex → St → Prop)
    (hT : ∀ e o z ver, (l.length + z) % 6 = 0 → z < 6 → e 5 = .own 128 ver → o 128 = (ver, .row false true 2 1 (l ++ List.replicate z 0).length (ints (l ++ List.replicate z 0))) → Φ (.exit 0) ⟨e, o⟩) (n : Nat) :
    ∀ (z ver : Nat) (e : Nat → AV) (o : Obs), n = 6 - z → z < 6 → (z = 0 ∨ (l.length + z - 1) % 6 ≠ 0) → (∀ y, y < z → (l.length + y) % 6 ≠ 0) → e 5 = .own 128 ver → o 128 = (ver, .row false true 2 1 (l ++ List.replicate z 0).length (ints (l ++ List.replicate z 0))) →
    To (loop Tryd.prog (loopAt Tryd.f24 0) ⟨e, o⟩) Φ := by
  generalize hc : loopAt Tryd.f24 0 = cd
  induction n with
  | zero => intro z ver e o hn hz; omega
  | succ n ih =>
    intro z ver e o hn hz hz1 hz2 h5 ho
    have hlen : (l ++ List.replicate z (0 : Int)).length = l.length + z := by simp
    rw [hlen] at ho
    have htm : ((l.length : Int) + (z : Int)).tmod 6 = (((l.length + z) % 6 : Nat) : Int) := by
      rw [Int.tmod_eq_emod_of_nonneg (by omega)]; omega
    have htm2 : ((l.length : Int) + (z : Int)) % 6 = (((l.length + z) % 6 : Nat) : Int) := by omega
    refine loop_go hc ?_
    by_cases h0 : (l.length + z) % 6 = 0
    · simp [Tryd.f24, h5, ho, htm, htm2, h0]
      exact hT _ _ z ver h0 hz (by simp [upd, h5]) (by rw [hlen]; exact ho)
    · have hint : ((((l.length + z) % 6 : Nat) : Int) = 0) = False := by simp; omega
      have hadd : ints (l ++ List.replicate (z + 1) 0) = ints (l ++ List.replicate z 0) ++ [.int .i64 0] := by simp [ints, List.replicate_succ']
      have hb : l.length + z + 1 ≤ 140737488355328 := by omega
      have hb8 : (l.length + z + 1) * 8 ≤ 140737488355328 := by omega
      have hz5 : z ≠ 5 := by
        intro h
        subst h
        have := hz2 0 (by omega)
        have := hz2 1 (by omega)
        have := hz2 2 (by omega)
        have := hz2 3 (by omega)
        have := hz2 4 (by omega)
        omega
      generalize hgr : (((l.length + z) % 6 : Nat) : Int) = gr at htm htm2 hint
      simp [Tryd.f24, h5, ho, htm, htm2, hint, hb, hb8]
      refine ih (z + 1) (ver + 1) _ _ (by omega) (by omega) (.inr (by simpa using h0)) (fun y hy => ?_) (by simp [upd]) ?_
      · by_cases e : y = z
        · rw [e]; exact h0
        · exact hz2 y (by omega)
      · simp [upd, hadd]
        omega

theorem liChunk (l : List Int) (h01 : bits01 l) (i : Nat) (C : List Int) (hC : C.length = 6) (hCb : ∀ (j : Nat) (hj : j < C.length), C[j] = (bitN l (i + j) : Int)) (o : Obs) (Φ : Ex → St → Prop) (n : Nat) :
    ∀ (k : Nat) (e : Nat → AV), n = 6 - k → k ≤ 6 → e 38 = .t (slT C) → e 39 = .t (.int .i64 6) → e 40 = .t (.int .i64 k) → e 8 = .t (.int .i64 (cv l i k)) →
    (∀ e', (∀ t, t < 8 → e' t = e t) → e' 8 = .t (.int .i64 (cv l i 6)) → Φ (.exit 4) ⟨e', o⟩) →
    To (loop Tryd.prog (loopAt Tryd.f24 2) ⟨e, o⟩) Φ := by
  generalize hc : loopAt Tryd.f24 2 = cd
  induction n with
  | zero =>
    intro k e hn hk h38 h39 h40 h8 hT
    have hk' : k = 6 := by omega
    subst hk'
    refine loop_go hc ?_
    simp [Tryd.f24, h39, h40]
    exact hT _ (by intro t h1; repeat (first | rfl | refine fr_upd ?_ (by omega))) (by simp [upd, h8])
  | succ n ih =>
    intro k e hn hk h38 h39 h40 h8 hT
    have hk' : k < 6 := by omega
    have hk2 : (k : Int) < 6 := by omega
    have hkC : k < C.length := by omega
    have hcl := cv_lt h01 i k
    have hbl := bitN_le h01 (i + k)
    have hp : 2 ^ k ≤ 32 := by
      have : ∀ k : Fin 6, 2 ^ k.1 ≤ 32 := by decide
      exact this ⟨k, hk'⟩
    have hw := wrap_succ hkC (by omega)
    have hw2 : IntKind.i64.wrap (2 * (cv l i k : Int)) = 2 * (cv l i k : Int) := wrap64 (by omega)
    have hw3 : IntKind.i64.wrap (2 * (cv l i k : Int) + (bitN l (i + k) : Int)) = 2 * (cv l i k : Int) + (bitN l (i + k) : Int) := wrap64 (by omega)
    have hg : C[k] = (bitN l (i + k) : Int) := hCb k hkC
    refine loop_go hc ?_
    simp [Tryd.f24, h38, h39, h40, h8, hw, hw2, hw3, hk2, slT, ints, hkC, Nat.le_of_lt hkC, hg]
    refine ih (k + 1) _ (by omega) (by omega) (by simp [upd, h38, slT, ints]) (by simp [upd, h39]) (by simp [upd]) (by simp [upd, cv]) (fun e' f1 h8' => hT e' (fun t a => (f1 t a).trans (by repeat (first | rfl | refine fr_upd ?_ (by omega)))) h8')
theorem idT_tB (l : List Int) (m : Nat) : ∃ bs : List UInt8, idT l m = ⟨bs.toArray⟩ ∧ bs.length = m := ⟨_, rfl, by simp⟩
theorem abcAt {c : Nat} (h : c < 64) : (abcB.data[c]?.getD 0) = abc.getD c 0 := by
  simp [abcB, List.getD_eq_getElem?_getD]

theorem liId (l : List Int) (h01 : bits01 l) (hl : l.length ≤ 1000) (z M : Nat) (hz6 : z < 6) (hz : l.length + z = 6 * M) (Φ : Ex → St → Prop)
    (hT : ∀ e o ver, e 6 = .own 216 ver → o 216 = (ver, .row false true 5 1 M (tB (idT l M).data.toList)) → Φ (.exit 2) ⟨e, o⟩) (n : Nat) :
    ∀ (m v1 ver : Nat) (fz : Bool) (e : Nat → AV) (o : Obs), n = M - m → m ≤ M → e 5 = .own 128 v1 → o 128 = (v1, .row fz true 2 1 (l.length + z) (ints (l ++ List.replicate z 0))) →
    e 6 = .own 216 ver → o 216 = (ver, .row false true 5 1 m (tB (idT l m).data.toList)) → e 7 = .t (.int .i64 ((6 * m : Nat) : Int)) →
    To (loop Tryd.prog (loopAt Tryd.f24 1) ⟨e, o⟩) Φ := by
  generalize hc : loopAt Tryd.f24 1 = cd
  induction n with
  | zero =>
    intro m v1 ver fz e o hn hm h5 ho5 h6 ho6 h7
    have hm' : m = M := by omega
    subst hm'
    have hlt : ¬ (6 * (m : Int)) < (l.length : Int) + (z : Int) := by omega
    refine loop_go hc ?_
    simp [Tryd.f24, h5, ho5, h7, hlt]
    exact hT _ _ ver (by simp [upd, h6]) ho6
  | succ n ih =>
    intro m v1 ver fz e o hn hm h5 ho5 h6 ho6 h7
    have hlt : (6 * (m : Int)) < (l.length : Int) + (z : Int) := by omega
    have hw : IntKind.i64.wrap (6 * (m : Int) + 6) = 6 * (m : Int) + 6 := wrap64 (by omega)
    have a1 : (0 : Int) ≤ 6 * (m : Int) := by omega
    have a2 : 6 * (m : Int) ≤ 6 * (m : Int) + 6 := by omega
    have a3 : 6 * (m : Int) + 6 ≤ (l.length : Int) + (z : Int) := by omega
    have a4 : (6 * (m : Int) + 6).toNat = 6 * m + 6 := by omega
    have a5 : (6 * (m : Int)).toNat = 6 * m := by omega
    have a6 : 6 * m + 6 - 6 * m = 6 := by omega
    have a7 : (ints (l ++ List.replicate z 0)).length = l.length + z := by simp [ints]
    obtain ⟨C, hCd⟩ : ∃ C : List Int, C = ((l ++ List.replicate z 0).drop (6 * m)).take 6 := ⟨_, rfl⟩
    have hC : C.length = 6 := by rw [hCd]; simp; omega
    have hCb : ∀ (j : Nat) (hj : j < C.length), C[j] = (bitN l (6 * m + j) : Int) := by
      intro j hj
      have hj6 : j < 6 := by omega
      have e1 : C[j]? = (l ++ List.replicate z 0)[6 * m + j]? := by rw [hCd]; simp [List.getElem?_take, List.getElem?_drop, hj6]
      rw [List.getElem?_eq_getElem hj] at e1
      unfold bitN
      rcases Nat.lt_or_ge (6 * m + j) l.length with hk | hk
      · rw [List.getElem?_append_left hk, List.getElem?_eq_getElem hk] at e1
        rw [List.getD_eq_getElem?_getD, List.getElem?_eq_getElem hk]
        have := h01 _ (List.getElem_mem hk)
        simp at e1
        rw [e1]; simp; omega
      · rw [List.getElem?_append_right hk, List.getElem?_replicate] at e1
        rw [List.getD_eq_getElem?_getD, List.getElem?_eq_none hk]
        split at e1
        · simp at e1; rw [e1]; rfl
        · omega
    have hCi : List.take 6 (List.drop (6 * m) (ints (l ++ List.replicate z 0))) = ints C := by rw [hCd]; simp [ints, List.map_take, List.map_drop]
    have hcl := cv_lt h01 (6 * m) 6
    simp only [Nat.reducePow] at hcl
    generalize hcc : cv l (6 * m) 6 = c at hcl
    have hsu := idT_succ l m
    rw [hcc] at hsu
    have hab := abcAt hcl
    have hc64 : c < abcB.size := by rw [abcB_size]; exact hcl
    have hc0 : (c : Int) < 64 := by omega
    generalize abc.getD c 0 = g at hab hsu
    have hb : m + 1 ≤ 140737488355328 := by omega
    have htl : (tB (idT l m).data.toList).length = m := by rw [tB_length, Array.length_toList]; exact idT_size l m
    refine loop_go hc ?_
    simp [Tryd.f24, h5, ho5, h7, hlt, hw, a1, a2, a3, a4, a5, a6, a7, hCi]
    refine goL_of (liChunk l h01 (6 * m) C hC hCb _ _ 6 0 _ (by omega) (by omega) (by simp [upd, slT, hC]) (by simp [upd]) (by simp [upd]) (by simp [upd, cv]) (fun e1 f1 h8 => ?_)) (fun _ _ h => h)
    have h5' : e1 5 = .own 128 v1 := (f1 5 (by omega)).trans (by simp [upd, h5])
    have h6' : e1 6 = .own 216 ver := (f1 6 (by omega)).trans (by simp [upd, h6])
    have h7' : e1 7 = .t (.int .i64 ((6 * m : Nat) : Int)) := (f1 7 (by omega)).trans (by simp [upd, h7])
    rw [hcc] at h8
    simp [Tryd.f24, h5', h6', h7', h8, ho6, abcB_lit, abcB_size, hc0, hcl, hab, hw, hb, htl]
    refine ih (m + 1) v1 (ver + 1) true _ _ (by omega) (by omega) (by simp [upd, h5']) (by simp [upd]) (by simp [upd]) ?_ (by simp [upd]; omega)
    simp [upd, hsu, ByteArray.data_append, tB]

theorem riBoardId (p c h s : Int) (x y : List Int) (hx : x.length < 9223372036854775807) (hy : y.length < 9223372036854775807) :
    run Tryd.prog 24 [vA p c h s, bA x y] = some (.t (.str (boardId p c h s x y)), []) := by
  have hb := riBoard p c h s x y hx hy
  rw [board_eq] at hb
  refine run_go Tryd.func24 ok24 (by simp [Tryd.ntmps24]) rfl ?_
  cases h1 : boardS p c h s x y
  · rw [h1] at hb
    simp [vA, bA] at hb
    simp [Tryd.f24, vA, bA, hb, boardId, h1]
  · rw [h1] at hb
    obtain ⟨sx, sy, hne⟩ := board_small h1
    have hbits := riBits x y sx sy hne
    have hsh := bits_short sx sy
    simp [vA, bA] at hb hbits
    have hid : boardId p c h s x y = idB x y := by simp [boardId, h1]
    rw [hid]
    unfold idB
    have h01 := bitsL_01 (x ++ y)
    generalize bitsL (x ++ y) = l at hbits hsh h01 ⊢
    simp [Tryd.f24, vA, bA, hb, hbits]
    refine goL_of (liPad l (by omega) _ (fun e o z ver hz hz6 h5 ho => ?_) 6 0 1 _ _ rfl (by omega) (.inl rfl) (by omega) (by simp [upd]) (by simp [upd, ints_length])) (fun _ _ h => h)
    obtain ⟨M, hM⟩ : ∃ M, l.length + z = 6 * M := ⟨(l.length + z) / 6, by omega⟩
    have hMe : (l.length + 5) / 6 = M := by omega
    rw [hMe]
    have hlen : (l ++ List.replicate z (0 : Int)).length = l.length + z := by simp
    rw [hlen] at ho
    have q1 : IntKind.i64.wrap (((l.length : Int) + (z : Int)).tdiv 6) = (M : Int) := by
      rw [Int.tdiv_eq_ediv_of_nonneg (by omega), wrap64 (by omega)]; omega
    have q2 : IntKind.i64.wrap (((l.length : Int) + (z : Int)) / 6) = (M : Int) := by
      rw [wrap64 (by omega)]; omega
    have q3 : (M : Int) ≤ 140737488355328 := by omega
    simp [Tryd.f24, h5, ho, q1, q2, q3]
    refine goL_of (liId l h01 (by omega) z M hz6 hM _ (fun e1 o1 ver1 h6 ho6 => ?_) M 0 ver _ false _ _ rfl (by omega) (by simp [upd, h5]) (by simp [upd, ho]) rfl rfl (by simp [upd])) (fun _ _ h => h)
    · have htl : (tB (idT l M).data.toList).length = M := by rw [tB_length, Array.length_toList]; exact idT_size l M
      have hbt := bytesT_tB (idT l M).data.toList
      have hso := strOfNums_tB (idT l M).data.toList
      simp [h6, ho6, htl, hbt, hso]
end Go.AX
