/- DESKS. Printed by program from a template. -/
import Derived.Test.YtkinlkcdjecgmaaDoorDeskF
namespace Go.AX
open Go Go.Proofs
attribute [local simp] goX_nil goX_code goX_code_exit goX_code_ret goX_blk goX_blk_ret goX_blk_exit goR_some goB_true goB_false goC_seq goC_block goC_skip goC_exit goC_ret goC_loop goC_region goC_draw goC_cond finF_ret finF_normal finK_some lpΨ_normal lpΨ_exit lpΨ_ret runE_cons runE_nil runK_some runD_cons runD_nil runDK_some runDQ_true stepE_eq stepK_true stepK_false guardE_eq guardG_none guardG_some guardJ_some guardK_bool guardK_non effV_some cellsAt_ptr cellsAt_cp cellsK_box cellsK_row loadE_eq loadK_some loadC_struct loadC_int loadC_bool loadC_str loadC_slice loadC_ptr loadC_map fieldAddrE_eq fieldQ_some fieldK_ptr fieldK_cp map_eff tK_some binE_int binE_str eqK_some binE_eql_agg binE_neq_agg binE_eql_bool binE_neq_bool binE_eql_own binE_neq_own binE_eql_nil binE_neq_nil binE_eql_sl binE_neq_sl andK_some fsK_some eqFs_nil eqFs_cons eqCell_int eqCell_bool eqCell_str callE_eq callQ_some callK_some snapsA_cons snapsA_nil snapsAK_some aggK_some snapA_agg snapA_t snapA_fn snapA_own snaps_cons snaps_nil snapsK_some snap_t snap_own snapK_row ressE_cons ressE_nil ressK_some resE_tmp vK_some resE_cell codeOf opE St.app putS putO upd moveE pickE boxE allocE buildE buildSliceE storeE cellsOf fieldE indexAddrE indexE lenE appendE srcE makeSliceE minE maxE extractE sliceE boundE strE eqE nilQ intArithE unE convE bytesT strOf flatA flatB flat1 flatT flatOb newObs renA renB renT renOb ev ofVal enterS boxCell newOb nid joinE finishE outA outB outT outOb outOb' outIds addIds baseIds refs2 refsA refs1 boxRefs hO okE_nil okE_cons okQ_true okQ_false disE_nil disE_left disE_right apE_nil apE_cons rd_contains rd_mem idsW_nil idsW_cons tiedE evParts lay placeOf frz fz1 zeros Op.operands Call.operands Region.binds intBeq intBne List.idxOf?_cons loopAt loopsOf ti2 ti3 ti4 ti5 ti9 ti21 ti22 ti23 ti24 ti25 ti26 ti27 ti28 ti29 ti30 ti31 ti34 ti35 ti36 ti37 ti38 ti39 ti55 ti68 ti85 ti86 ti89 ti100 ti103
set_option maxRecDepth 100000
set_option maxHeartbeats 2000000

abbrev Bd := List Int × List Int
def pastC (l : List Bd) : List T := l.flatMap fun b => [slT b.1, slT b.2]
def pastT (l : List Bd) : T := .sl l.length (pastC l)
theorem pastC_length : ∀ (l : List Bd), (pastC l).length = l.length * 2
  | [] => rfl
  | b :: l => by
    have := pastC_length l
    unfold pastC at this ⊢
    simp only [List.flatMap_cons, List.length_append, List.length_cons, List.length_nil, this]; omega
theorem pastC_drop : ∀ {l : List Bd} {k : Nat} (hk : k < l.length), (pastC l).drop (k * 2) = slT l[k].1 :: slT l[k].2 :: pastC (l.drop (k + 1))
  | b :: l, 0, _ => by simp [pastC]
  | b :: l, k + 1, hk => by
    have ih := pastC_drop (l := l) (k := k) (by simpa using hk)
    unfold pastC at ih ⊢
    simp only [List.flatMap_cons, List.getElem_cons_succ, List.drop_succ_cons]
    rw [show (k + 1) * 2 = 2 + k * 2 from by omega, ← List.drop_drop]
    exact ih
def dL (p c h s : Int) (x y : List Int) (a b seed : Int) (past : List Bd) : List AV :=
  [.t (.int .i64 p), .t (.int .i64 c), .t (.int .i64 h), .t (.int .i64 s), .t (slT x), .t (slT y), .t (.int .i64 a), .t (.int .i64 b), .t (.int .i64 seed), .t (pastT past)]
def short (l : List Int) : Prop := l.length < 9223372036854775807
def pastOk (p c h s : Int) (l : List Bd) : Bool := l.all fun q => boardS p c h s q.1 q.2

theorem lsPast (p c h s : Int) (x y : List Int) (a b seed : Int) (l : List Bd) (hl : l.length < 9223372036854775807) (hs : ∀ q ∈ l, short q.1 ∧ short q.2) (o : Obs)
    (ho : o 8 = (1, .box 39 (dL p c h s x y a b seed l))) (Φ : Ex → St → Prop)
    (hT : ∀ e, pastOk p c h s l = true → Φ (.exit 0) ⟨e, o⟩) (hF : ∀ e, pastOk p c h s l = false → e 2 = .t (.bool false) → Φ .ret ⟨e, o⟩) (n : Nat) :
    ∀ (k : Nat) (e : Nat → AV), n = l.length - k → k ≤ l.length → pastOk p c h s (l.take k) = true → e 1 = .ptr 8 1 0 → e 3 = .t (.int .i64 k) →
    To (loop Tryd.prog (loopAt Tryd.f11 0) ⟨e, o⟩) Φ := by
  generalize hc : loopAt Tryd.f11 0 = cd
  induction n with
  | zero =>
    intro k e hn hk ha h1 h3
    have hk' : k = l.length := by omega
    subst hk'
    rw [List.take_length] at ha
    refine loop_go hc ?_
    simp [Tryd.f11, h1, h3, ho, dL, pastT]
    exact hT _ ha
  | succ n ih =>
    intro k e hn hk ha h1 h3
    have hk' : k < l.length := by omega
    have hw := wrap_succ hk' (Nat.le_of_lt hl)
    have hlen := pastC_length l
    have hd := pastC_drop hk'
    have hq := hs l[k] (List.getElem_mem hk')
    have hb := rsBoard p c h s l[k].1 l[k].2 hq.1 hq.2
    have h2l : k * 2 ≤ l.length * 2 := by omega
    simp [vA, bA, slT] at hb
    refine loop_go hc ?_
    cases hv : boardS p c h s l[k].1 l[k].2
    · rw [hv] at hb
      simp [Tryd.f11, h1, h3, ho, dL, pastT, hk', hk, h2l, hlen, hd, hb, slT]
      refine hF _ ?_ (by simp [upd])
      unfold pastOk
      rw [List.all_eq_false]
      exact ⟨l[k], List.getElem_mem hk', by simp [hv]⟩
    · rw [hv] at hb
      simp [Tryd.f11, h1, h3, ho, dL, pastT, hk', hk, h2l, hlen, hd, hb, slT, hw]
      refine ih (k + 1) _ (by omega) (by omega) ?_ (by simp [upd, h1]) (by simp [upd])
      unfold pastOk at ha ⊢
      rw [List.take_add_one, List.getElem?_eq_getElem hk', List.all_append, ha]
      simp [hv]

def noneB (a b : Int) : Bool := decide (a = 0) && decide (b = 0)
def roll2 (s a b : Int) : Bool := inB a 1 s && inB b 1 a
def deskS (p c h s : Int) (x y : List Int) (a b seed : Int) (past : List Bd) : Bool :=
  (isVar p c h s && decide (4 ≤ p)) && (boardS p c h s x y && ((noneB a b || roll2 s a b) && (inB seed 1 2147483646 && (decide (past.length ≤ 30) && pastOk p c h s past))))

theorem rsDesk (p c h s : Int) (x y : List Int) (a b seed : Int) (l : List Bd) (hx : short x) (hy : short y) (hs : ∀ q ∈ l, short q.1 ∧ short q.2) :
    run Tryd.prog 11 [.agg (dL p c h s x y a b seed l)] = some (.t (.bool (deskS p c h s x y a b seed l)), []) := by
  refine run_go Tryd.func11 ok11 (by simp [Tryd.ntmps11]) rfl ?_
  have hst := rsStart p c h s
  have hbd := rsBoard p c h s x y hx hy
  have hno := rsNone a b
  have hro := rs10Roll p c h s a b
  have hse := rsSeed seed
  change run Tryd.prog _ _ = some (.t (.bool (noneB a b)), []) at hno
  change run Tryd.prog _ _ = some (.t (.bool (roll2 s a b)), []) at hro
  simp only [vA, bA, rA] at hst hbd hno hro
  cases h1 : (isVar p c h s && decide (4 ≤ p))
  · rw [h1] at hst
    simp [Tryd.f11, dL, hst, deskS, h1]
  rw [h1] at hst
  cases h2 : boardS p c h s x y
  · rw [h2] at hbd
    simp [Tryd.f11, dL, hst, hbd, deskS, h1, h2]
  rw [h2] at hbd
  cases h3 : noneB a b
  · cases h4 : roll2 s a b
    · rw [h3] at hno; rw [h4] at hro
      simp [Tryd.f11, dL, hst, hbd, hno, hro, deskS, h1, h2, h3, h4]
    rw [h3] at hno; rw [h4] at hro
    cases h5 : inB seed 1 2147483646
    · rw [h5] at hse
      simp [Tryd.f11, dL, hst, hbd, hno, hro, hse, deskS, h1, h2, h3, h4, h5]
    rw [h5] at hse
    by_cases h6 : l.length ≤ 30
    · have h6' : ¬ (30 : Int) < (l.length : Int) := by omega
      simp [Tryd.f11, dL, pastT, hst, hbd, hno, hro, hse, deskS, h1, h2, h3, h4, h5, h6, h6']
      refine lsPast p c h s x y a b seed l (by omega) hs _ (by simp [upd, dL, pastT]) _ (fun e ha => ?_) (fun e ha e2 => ?_) _ 0 _ rfl (by omega) (by simp [pastOk]) (by simp [upd]) (by simp [upd])
      · simp [Tryd.f11, ha]
      · simp [Tryd.f11, ha, e2]
    · have h6' : (30 : Int) < (l.length : Int) := by omega
      simp [Tryd.f11, dL, pastT, hst, hbd, hno, hro, hse, deskS, h1, h2, h3, h4, h5, h6, h6']
  · rw [h3] at hno
    cases h5 : inB seed 1 2147483646
    · rw [h5] at hse
      simp [Tryd.f11, dL, hst, hbd, hno, hse, deskS, h1, h2, h3, h5]
    rw [h5] at hse
    by_cases h6 : l.length ≤ 30
    · have h6' : ¬ (30 : Int) < (l.length : Int) := by omega
      simp [Tryd.f11, dL, pastT, hst, hbd, hno, hse, deskS, h1, h2, h3, h5, h6, h6']
      refine lsPast p c h s x y a b seed l (by omega) hs _ (by simp [upd, dL, pastT]) _ (fun e ha => ?_) (fun e ha e2 => ?_) _ 0 _ rfl (by omega) (by simp [pastOk]) (by simp [upd]) (by simp [upd])
      · simp [Tryd.f11, ha]
      · simp [Tryd.f11, ha, e2]
    · have h6' : (30 : Int) < (l.length : Int) := by omega
      simp [Tryd.f11, dL, pastT, hst, hbd, hno, hse, deskS, h1, h2, h3, h5, h6, h6']
end Go.AX
