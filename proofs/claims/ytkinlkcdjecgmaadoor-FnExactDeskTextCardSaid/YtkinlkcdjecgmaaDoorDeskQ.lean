/- DESKS AS TEXTS (both). Printed by program from a template. -/
import Derived.Test.YtkinlkcdjecgmaaDoorDeskP
namespace Go.AX
open Go Go.Proofs
attribute [local simp] goX_nil goX_code goX_code_exit goX_code_ret goX_blk goX_blk_ret goX_blk_exit goR_some goB_true goB_false goC_seq goC_block goC_skip goC_exit goC_ret goC_loop goC_region goC_draw goC_cond finF_ret finF_normal finK_some lpΨ_normal lpΨ_exit lpΨ_ret runE_cons runE_nil runK_some runD_cons runD_nil runDK_some runDQ_true stepE_eq stepK_true stepK_false guardE_eq guardG_none guardG_some guardJ_some guardK_bool guardK_non effV_some cellsAt_ptr cellsAt_cp cellsK_box cellsK_row loadE_eq loadK_some loadC_struct loadC_int loadC_bool loadC_str loadC_slice loadC_ptr loadC_map fieldAddrE_eq fieldQ_some fieldK_ptr fieldK_cp map_eff tK_some binE_int binE_str eqK_some binE_eql_agg binE_neq_agg binE_eql_bool binE_neq_bool binE_eql_own binE_neq_own binE_eql_nil binE_neq_nil binE_eql_sl binE_neq_sl andK_some fsK_some eqFs_nil eqFs_cons eqCell_int eqCell_bool eqCell_str callE_eq callQ_some callK_some snapsA_cons snapsA_nil snapsAK_some aggK_some snapA_agg snapA_t snapA_fn snapA_own snaps_cons snaps_nil snapsK_some snap_t snap_own snapK_row ressE_cons ressE_nil ressK_some resE_tmp vK_some resE_cell codeOf opE St.app putS putO upd moveE pickE boxE allocE buildE buildSliceE storeE cellsOf fieldE indexAddrE indexE lenE appendE srcE makeSliceE minE maxE extractE sliceE boundE strE eqE nilQ intArithE unE convE bytesT strOf flatA flatB flat1 flatT flatOb newObs renA renB renT renOb ev ofVal enterS boxCell newOb nid joinE finishE outA outB outT outOb outOb' outIds addIds baseIds refs2 refsA refs1 boxRefs hO okE_nil okE_cons okQ_true okQ_false disE_nil disE_left disE_right apE_nil apE_cons rd_contains rd_mem idsW_nil idsW_cons tiedE evParts lay placeOf frz fz1 zeros Op.operands Call.operands Region.binds intBeq intBne List.idxOf?_cons loopAt loopsOf ti2 ti3 ti4 ti5 ti9 ti21 ti22 ti23 ti24 ti25 ti26 ti27 ti28 ti29 ti30 ti31 ti34 ti35 ti36 ti37 ti38 ti39 ti55 ti68 ti85 ti86 ti89 ti100 ti103
set_option maxRecDepth 100000
set_option maxHeartbeats 4000000

def rollW (p c h s a b : Int) : ByteArray := if noneB a b then ⟨#[45]⟩ else rollT p c h s a b
def deskT (p c h s : Int) (x y : List Int) (a b seed : Int) (n : Nat) : ByteArray :=
  (((((((varT p c h s ++ ⟨#[32]⟩) ++ boardId p c h s x y) ++ ⟨#[32]⟩) ++ rollW p c h s a b) ++ ⟨#[32]⟩) ++ itoaB seed) ++ ⟨#[32]⟩) ++ itoaB n
theorem varT_size (p c h s : Int) : (varT p c h s).size ≤ 1000 := by
  unfold varT
  split
  · rename_i hv
    have hb : (2 ≤ p ∧ p ≤ 24) ∧ (1 ≤ c ∧ c ≤ 15) ∧ (1 ≤ h ∧ h ≤ 24) ∧ (1 ≤ s ∧ s ≤ 6) := by simp [isVar, inB] at hv; omega
    have s1 := digB_size p.toNat
    have s2 := digB_size c.toNat
    have s3 := digB_size h.toNat
    have s4 := digB_size s.toNat
    have hz : (⟨#[47]⟩ : ByteArray).size = 1 := rfl
    simp only [ByteArray.size_append, hz]; omega
  · simp [ByteArray.size]
theorem rollW_size (p c h s a b : Int) : (rollW p c h s a b).size ≤ 1000 := by
  unfold rollW rollT
  split
  · simp [ByteArray.size]
  · split
    · rename_i hv
      have hb : (1 ≤ a ∧ a ≤ 6) ∧ 1 ≤ b ∧ b ≤ 6 := by simp [isRoll, isVar, inB] at hv; omega
      have s1 := digB_size a.toNat
      have s2 := digB_size b.toNat
      simp only [ByteArray.size_append]; omega
    · simp [ByteArray.size]
theorem boardId_size (p c h s : Int) (x y : List Int) : (boardId p c h s x y).size ≤ 1000 := by
  unfold boardId
  split
  · rename_i hb
    obtain ⟨sx, sy, -⟩ := board_small hb
    have := bits_short sx sy
    unfold idB
    rw [idT_size]; omega
  · simp [ByteArray.size]

theorem rsDeskText (p c h s : Int) (x y : List Int) (a b seed : Int) (l : List Bd) (hx : short x) (hy : short y) (hs : ∀ q ∈ l, short q.1 ∧ short q.2) :
    run Tryd.prog 5 [.agg (dL p c h s x y a b seed l)] = some (.t (.str (if deskS p c h s x y a b seed l then deskT p c h s x y a b seed l.length else ⟨#[]⟩)), []) := by
  have hd := rsDesk p c h s x y a b seed l hx hy hs
  refine run_go Tryd.func5 ok5 (by simp [Tryd.ntmps5]) rfl ?_
  cases h1 : deskS p c h s x y a b seed l
  · rw [h1] at hd
    simp [dL] at hd
    simp [Tryd.f5, dL, hd]
  · rw [h1] at hd
    have hse : inI64 seed := by simp [deskS, inB] at h1; unfold inI64; omega
    have hl30 : l.length ≤ 30 := by simp [deskS] at h1; omega
    have hln : inI64 (l.length : Int) := by unfold inI64; omega
    have hno := rsNone a b
    have hro := rsRollText p c h s a b
    have hva := rsVarText p c h s
    have hbo := rsBoardId p c h s x y hx hy
    have hd1 := rsDecimal seed hse
    have hd2 := rsDecimal l.length hln
    have z1 := varT_size p c h s
    have z2 := boardId_size p c h s x y
    have z3 := rollW_size p c h s a b
    have z4 := itoaB_len hse
    have z5 := itoaB_len hln
    have hz : (⟨#[32]⟩ : ByteArray).size = 1 := rfl
    simp [vA, rA, bA] at hro hva hbo hno
    simp [dL, pastT] at hd
    unfold rollW at z3
    simp only [deskT, rollW]
    cases h2 : noneB a b
    · have h2' : (decide (a = 0) && decide (b = 0)) = false := h2
      simp only [h2, if_false, Bool.false_eq_true] at z3 ⊢
      generalize varT p c h s = X1 at *
      generalize boardId p c h s x y = X2 at *
      generalize rollT p c h s a b = X3 at *
      generalize itoaB seed = X4 at *
      generalize itoaB l.length = X5 at *
      have y1 : X1.size + 1 ≤ 9223372036854775807 := by omega
      have y2 : X1.size + 1 + X2.size ≤ 9223372036854775807 := by omega
      have y3 : X1.size + 1 + X2.size + 1 ≤ 9223372036854775807 := by omega
      have y4 : X1.size + 1 + X2.size + 1 + X3.size ≤ 9223372036854775807 := by omega
      have y5 : X1.size + 1 + X2.size + 1 + X3.size + 1 ≤ 9223372036854775807 := by omega
      have y6 : X1.size + 1 + X2.size + 1 + X3.size + 1 + X4.size ≤ 9223372036854775807 := by omega
      have y7 : X1.size + 1 + X2.size + 1 + X3.size + 1 + X4.size + 1 ≤ 9223372036854775807 := by omega
      have y8 : X1.size + 1 + X2.size + 1 + X3.size + 1 + X4.size + 1 + X5.size ≤ 9223372036854775807 := by omega
      simp [Tryd.f5, dL, pastT, hd, hno, h2', hro, hva, hbo, hd1, hd2, hz, ByteArray.size_append, y1, y2, y3, y4, y5, y6, y7, y8]
    · have h2' : (decide (a = 0) && decide (b = 0)) = true := h2
      simp only [h2, if_true] at z3 ⊢
      generalize varT p c h s = X1 at *
      generalize boardId p c h s x y = X2 at *
      generalize itoaB seed = X4 at *
      generalize itoaB l.length = X5 at *
      have hz3 : (⟨#[45]⟩ : ByteArray).size = 1 := rfl
      have y1 : X1.size + 1 ≤ 9223372036854775807 := by omega
      have y2 : X1.size + 1 + X2.size ≤ 9223372036854775807 := by omega
      have y3 : X1.size + 1 + X2.size + 1 ≤ 9223372036854775807 := by omega
      have y4 : X1.size + 1 + X2.size + 1 + 1 ≤ 9223372036854775807 := by omega
      have y5 : X1.size + 1 + X2.size + 1 + 1 + 1 ≤ 9223372036854775807 := by omega
      have y6 : X1.size + 1 + X2.size + 1 + 1 + 1 + X4.size ≤ 9223372036854775807 := by omega
      have y7 : X1.size + 1 + X2.size + 1 + 1 + 1 + X4.size + 1 ≤ 9223372036854775807 := by omega
      have y8 : X1.size + 1 + X2.size + 1 + 1 + 1 + X4.size + 1 + X5.size ≤ 9223372036854775807 := by omega
      simp [Tryd.f5, dL, pastT, hd, hno, h2', hva, hbo, hd1, hd2, hz, hz3, ByteArray.size_append, y1, y2, y3, y4, y5, y6, y7, y8]

theorem riDeskText (p c h s : Int) (x y : List Int) (a b seed : Int) (l : List Bd) (hx : short x) (hy : short y) (hs : ∀ q ∈ l, short q.1 ∧ short q.2) :
    run Tryd.prog 7 [.agg (dL p c h s x y a b seed l)] = some (.t (.str (if deskS p c h s x y a b seed l then deskT p c h s x y a b seed l.length else ⟨#[]⟩)), []) := by
  have hd := riDesk p c h s x y a b seed l hx hy hs
  rw [desk_eq] at hd
  refine run_go Tryd.func7 ok7 (by simp [Tryd.ntmps7]) rfl ?_
  cases h1 : deskS p c h s x y a b seed l
  · rw [h1] at hd
    simp [dL] at hd
    simp [Tryd.f7, dL, hd]
  · rw [h1] at hd
    have hse : inI64 seed := by simp [deskS, inB] at h1; unfold inI64; omega
    have hl30 : l.length ≤ 30 := by simp [deskS] at h1; omega
    have hln : inI64 (l.length : Int) := by unfold inI64; omega
    have hro := riRollText p c h s a b
    have hva := riVarText p c h s
    have hbo := riBoardId p c h s x y hx hy
    have hd1 := riDecimal seed hse
    have hd2 := riDecimal l.length hln
    have z1 := varT_size p c h s
    have z2 := boardId_size p c h s x y
    have z3 := rollW_size p c h s a b
    have z4 := itoaB_len hse
    have z5 := itoaB_len hln
    simp [vA, rA, bA] at hro hva hbo
    simp [dL, pastT] at hd
    have hjoin : run Tryd.prog 26 [.t (.sl 5 [.str (varT p c h s), .str (boardId p c h s x y), .str (rollW p c h s a b), .str (itoaB seed), .str (itoaB l.length)]), .t (.str ⟨#[32]⟩)] = some (.t (.str (deskT p c h s x y a b seed l.length)), []) := by
      refine run_prim ?_
      have he : joinB [varT p c h s, boardId p c h s x y, rollW p c h s a b, itoaB seed, itoaB l.length] ⟨#[32]⟩ = deskT p c h s x y a b seed l.length := by
        simp only [deskT, joinB, Lib.join]
        apply ByteArray.ext
        simp [ByteArray.data_append]
      have hjl : (Lib.join ([varT p c h s, boardId p c h s x y, rollW p c h s a b, itoaB seed, itoaB l.length].map (·.data.toList)) (⟨#[32]⟩ : ByteArray).data.toList).length ≤ 140737488355328 := by
        simp [Lib.join]; omega
      simp only [Prim.ans, joinAns, strsT, Option.map_some, if_true]
      rw [if_pos ⟨rfl, by omega, hjl⟩, he]
    unfold rollW at hjoin
    cases h2 : noneB a b
    · have h2' : a = 0 → ¬ b = 0 := by simpa [noneB] using h2
      have h2b : (decide (a = 0) && decide (b = 0)) = false := h2
      simp only [h2, if_false, Bool.false_eq_true] at hjoin
      simp [Tryd.f7, dL, pastT, hd, h2b, hro, hva, hbo, hd1, hd2, hjoin]
    · have h2b : (decide (a = 0) && decide (b = 0)) = true := h2
      simp only [h2, if_true] at hjoin
      simp [Tryd.f7, dL, pastT, hd, h2b, hva, hbo, hd1, hd2, hjoin]
end Go.AX
