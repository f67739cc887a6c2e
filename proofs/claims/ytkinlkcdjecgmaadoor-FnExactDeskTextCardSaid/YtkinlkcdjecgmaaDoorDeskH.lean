/- DESKS, as the program sees them. Printed by program from a template. -/
import Derived.Test.YtkinlkcdjecgmaaDoorDeskG
namespace Go.AX
open Go Go.Proofs
attribute [local simp] goX_nil goX_code goX_code_exit goX_code_ret goX_blk goX_blk_ret goX_blk_exit goR_some goB_true goB_false goC_seq goC_block goC_skip goC_exit goC_ret goC_loop goC_region goC_draw goC_cond finF_ret finF_normal finK_some lpΨ_normal lpΨ_exit lpΨ_ret runE_cons runE_nil runK_some runD_cons runD_nil runDK_some runDQ_true stepE_eq stepK_true stepK_false guardE_eq guardG_none guardG_some guardJ_some guardK_bool guardK_non effV_some cellsAt_ptr cellsAt_cp cellsK_box cellsK_row loadE_eq loadK_some loadC_struct loadC_int loadC_bool loadC_str loadC_slice loadC_ptr loadC_map fieldAddrE_eq fieldQ_some fieldK_ptr fieldK_cp map_eff tK_some binE_int binE_str eqK_some binE_eql_agg binE_neq_agg binE_eql_bool binE_neq_bool binE_eql_own binE_neq_own binE_eql_nil binE_neq_nil binE_eql_sl binE_neq_sl andK_some fsK_some eqFs_nil eqFs_cons eqCell_int eqCell_bool eqCell_str callE_eq callQ_some callK_some snapsA_cons snapsA_nil snapsAK_some aggK_some snapA_agg snapA_t snapA_fn snapA_own snaps_cons snaps_nil snapsK_some snap_t snap_own snapK_row ressE_cons ressE_nil ressK_some resE_tmp vK_some resE_cell codeOf opE St.app putS putO upd moveE pickE boxE allocE buildE buildSliceE storeE cellsOf fieldE indexAddrE indexE lenE appendE srcE makeSliceE minE maxE extractE sliceE boundE strE eqE nilQ intArithE unE convE bytesT strOf flatA flatB flat1 flatT flatOb newObs renA renB renT renOb ev ofVal enterS boxCell newOb nid joinE finishE outA outB outT outOb outOb' outIds addIds baseIds refs2 refsA refs1 boxRefs hO okE_nil okE_cons okQ_true okQ_false disE_nil disE_left disE_right apE_nil apE_cons rd_contains rd_mem idsW_nil idsW_cons tiedE evParts lay placeOf frz fz1 zeros Op.operands Call.operands Region.binds intBeq intBne List.idxOf?_cons loopAt loopsOf ti2 ti3 ti4 ti5 ti9 ti21 ti22 ti23 ti24 ti25 ti26 ti27 ti28 ti29 ti30 ti31 ti34 ti35 ti36 ti37 ti38 ti39 ti55 ti68 ti85 ti86 ti89 ti100 ti103
set_option maxRecDepth 100000
set_option maxHeartbeats 4000000

def pastOkI (p c h s : Int) (l : List Bd) : Bool := l.all fun q => boardI p c h s q.1 q.2
theorem liPast (p c h s : Int) (l : List Bd) (hl : l.length < 9223372036854775807) (hs : ∀ q ∈ l, short q.1 ∧ short q.2) (Φ : Ex → St → Prop)
    (hT : ∀ e o, pastOkI p c h s l = true → Φ (.exit 0) ⟨e, o⟩) (hF : ∀ e o, pastOkI p c h s l = false → e 2 = .t (.bool false) → Φ .ret ⟨e, o⟩) (n : Nat) :
    ∀ (k : Nat) (e : Nat → AV) (o : Obs), n = l.length - k → k ≤ l.length → pastOkI p c h s (l.take k) = true → e 3 = .ptr 24 1 0 → e 47 = .t (pastT l) → e 48 = .t (.int .i64 l.length) → e 49 = .t (.int .i64 k) →
    o 24 = (1, .box 34 [.t (.int .i64 p), .t (.int .i64 c), .t (.int .i64 h), .t (.int .i64 s)]) →
    To (loop Tryd.prog (loopAt Tryd.f21 0) ⟨e, o⟩) Φ := by
  generalize hc : loopAt Tryd.f21 0 = cd
  induction n with
  | zero =>
    intro k e o hn hk ha h3 h47 h48 h49 ho
    have hk' : k = l.length := by omega
    subst hk'
    rw [List.take_length] at ha
    refine loop_go hc ?_
    simp [Tryd.f21, h3, h47, h48, h49, ho, pastT]
    exact hT _ _ ha
  | succ n ih =>
    intro k e o hn hk ha h3 h47 h48 h49 ho
    have hk' : k < l.length := by omega
    have hw := wrap_succ hk' (Nat.le_of_lt hl)
    have hlen := pastC_length l
    have hd := pastC_drop hk'
    have hq := hs l[k] (List.getElem_mem hk')
    have hb := riBoard p c h s l[k].1 l[k].2 hq.1 hq.2
    have h2l : k * 2 ≤ l.length * 2 := by omega
    simp [vA, bA, slT] at hb
    refine loop_go hc ?_
    cases hv : boardI p c h s l[k].1 l[k].2
    · rw [hv] at hb
      simp [Tryd.f21, h3, h47, h48, h49, ho, pastT, hk', hk, h2l, hlen, hd, hb, slT]
      refine hF _ _ ?_ (by simp [upd])
      unfold pastOkI
      rw [List.all_eq_false]
      exact ⟨l[k], List.getElem_mem hk', by simp [hv]⟩
    · rw [hv] at hb
      simp [Tryd.f21, h3, h47, h48, h49, ho, pastT, hk', hk, h2l, hlen, hd, hb, slT, hw]
      refine ih (k + 1) _ _ (by omega) (by omega) ?_ (by simp [upd, h3]) (by simp [upd, h47, pastT]) (by simp [upd, h48]) (by simp [upd]) (by simp [upd, ho])
      unfold pastOkI at ha ⊢
      rw [List.take_add_one, List.getElem?_eq_getElem hk', List.all_append, ha]
      simp [hv]

theorem past_eq (p c h s : Int) (l : List Bd) : pastOkI p c h s l = pastOk p c h s l := by
  unfold pastOkI pastOk
  congr 1
  funext q
  exact board_eq p c h s q.1 q.2

def deskI (p c h s : Int) (x y : List Int) (a b seed : Int) (past : List Bd) : Bool :=
  isVar p c h s && (!decide (p < 4) && (boardI p c h s x y && (inB seed 1 2147483646 && (decide (past.length ≤ 30) && ((noneB a b || isRoll p c h s a b) && pastOkI p c h s past)))))

theorem riDesk (p c h s : Int) (x y : List Int) (a b seed : Int) (l : List Bd) (hx : short x) (hy : short y) (hs : ∀ q ∈ l, short q.1 ∧ short q.2) :
    run Tryd.prog 21 [.agg (dL p c h s x y a b seed l)] = some (.t (.bool (deskI p c h s x y a b seed l)), []) := by
  refine run_go Tryd.func21 ok21 (by simp [Tryd.ntmps21]) rfl ?_
  have hv := riVar p c h s
  have hbd := riBoard p c h s x y hx hy
  have hro := riRoll p c h s a b
  have hse := riSeed seed
  simp only [vA, bA, rA] at hv hbd hro
  cases h1 : isVar p c h s
  · rw [h1] at hv
    simp [Tryd.f21, dL, hv, deskI, h1]
  rw [h1] at hv
  by_cases h2 : p < 4
  · simp [Tryd.f21, dL, hv, deskI, h1, h2]
  cases h3 : boardI p c h s x y
  · rw [h3] at hbd
    simp [Tryd.f21, dL, hv, hbd, deskI, h1, h2, h3]
  rw [h3] at hbd
  cases h5 : inB seed 1 2147483646
  · rw [h5] at hse
    simp [Tryd.f21, dL, hv, hbd, hse, deskI, h1, h2, h3, h5]
  rw [h5] at hse
  by_cases h6 : l.length ≤ 30
  · have h6' : ¬ (30 : Int) < (l.length : Int) := by omega
    cases h7 : noneB a b
    · have h7' : (decide (a = 0) && decide (b = 0)) = false := h7
      cases h8 : isRoll p c h s a b
      · rw [h8] at hro
        simp [Tryd.f21, dL, pastT, hv, hbd, hro, hse, deskI, h1, h2, h3, h5, h6, h6', h7, h7', h8]
      · rw [h8] at hro
        simp [Tryd.f21, dL, pastT, hv, hbd, hro, hse, deskI, h1, h2, h3, h5, h6, h6', h7, h7', h8]
        refine liPast p c h s l (by omega) hs _ (fun e o ha => ?_) (fun e o ha e2 => ?_) _ 0 _ _ rfl (by omega) (by simp [pastOkI]) (by simp [upd]) (by simp [upd, pastT]) (by simp [upd]) (by simp [upd]) (by simp [upd])
        · simp [Tryd.f21, ha]
        · simp [Tryd.f21, ha, e2]
    · have h7' : (decide (a = 0) && decide (b = 0)) = true := h7
      simp [Tryd.f21, dL, pastT, hv, hbd, hse, deskI, h1, h2, h3, h5, h6, h6', h7, h7']
      refine liPast p c h s l (by omega) hs _ (fun e o ha => ?_) (fun e o ha e2 => ?_) _ 0 _ _ rfl (by omega) (by simp [pastOkI]) (by simp [upd]) (by simp [upd, pastT]) (by simp [upd]) (by simp [upd]) (by simp [upd])
      · simp [Tryd.f21, ha]
      · simp [Tryd.f21, ha, e2]
  · have h6' : (30 : Int) < (l.length : Int) := by omega
    simp [Tryd.f21, dL, pastT, hv, hbd, hse, deskI, h1, h2, h3, h5, h6, h6']

theorem desk_eq (p c h s : Int) (x y : List Int) (a b seed : Int) (l : List Bd) : deskI p c h s x y a b seed l = deskS p c h s x y a b seed l := by
  unfold deskI deskS isRoll roll2
  rw [board_eq, past_eq]
  cases h1 : isVar p c h s
  · rfl
  have : (!decide (p < 4)) = decide (4 ≤ p) := by by_cases h : p < 4 <;> simp [h] <;> omega
  rw [this]
  cases decide (4 ≤ p) <;> cases boardS p c h s x y <;> cases noneB a b <;> cases inB a 1 s <;> cases inB b 1 a <;> cases inB seed 1 2147483646 <;> cases decide (l.length ≤ 30) <;> cases pastOk p c h s l <;> rfl
end Go.AX
