/- BOARDS. Printed by program from a template. -/
import Derived.Test.YtkinlkcdjecgmaaDoorDeskD
namespace Go.AX
open Go Go.Proofs
attribute [local simp] goX_nil goX_code goX_code_exit goX_code_ret goX_blk goX_blk_ret goX_blk_exit goR_some goB_true goB_false goC_seq goC_block goC_skip goC_exit goC_ret goC_loop goC_region goC_draw goC_cond finF_ret finF_normal finK_some lpΨ_normal lpΨ_exit lpΨ_ret runE_cons runE_nil runK_some runD_cons runD_nil runDK_some runDQ_true stepE_eq stepK_true stepK_false guardE_eq guardG_none guardG_some guardJ_some guardK_bool guardK_non effV_some cellsAt_ptr cellsAt_cp cellsK_box cellsK_row loadE_eq loadK_some loadC_struct loadC_int loadC_bool loadC_str loadC_slice loadC_ptr loadC_map fieldAddrE_eq fieldQ_some fieldK_ptr fieldK_cp map_eff tK_some binE_int binE_str eqK_some binE_eql_agg binE_neq_agg binE_eql_bool binE_neq_bool binE_eql_own binE_neq_own binE_eql_nil binE_neq_nil binE_eql_sl binE_neq_sl andK_some fsK_some eqFs_nil eqFs_cons eqCell_int eqCell_bool eqCell_str callE_eq callQ_some callK_some snapsA_cons snapsA_nil snapsAK_some aggK_some snapA_agg snapA_t snapA_fn snapA_own snaps_cons snaps_nil snapsK_some snap_t snap_own snapK_row ressE_cons ressE_nil ressK_some resE_tmp vK_some resE_cell codeOf opE St.app putS putO upd moveE pickE boxE allocE buildE buildSliceE storeE cellsOf fieldE indexAddrE indexE lenE appendE srcE makeSliceE minE maxE extractE sliceE boundE strE eqE nilQ intArithE unE convE bytesT strOf flatA flatB flat1 flatT flatOb newObs renA renB renT renOb ev ofVal enterS boxCell newOb nid joinE finishE outA outB outT outOb outOb' outIds addIds baseIds refs2 refsA refs1 boxRefs hO okE_nil okE_cons okQ_true okQ_false disE_nil disE_left disE_right apE_nil apE_cons rd_contains rd_mem idsW_nil idsW_cons tiedE evParts lay placeOf frz fz1 zeros Op.operands Call.operands Region.binds intBeq intBne List.idxOf?_cons loopAt loopsOf ti2 ti3 ti4 ti5 ti9 ti21 ti22 ti23 ti24 ti25 ti26 ti27 ti28 ti29 ti30 ti31 ti34 ti35 ti36 ti37 ti38 ti39 ti55 ti68 ti85 ti86 ti89 ti100 ti103
set_option maxRecDepth 100000
set_option maxHeartbeats 2000000

def ptsB (p : Int) (x y : List Int) : Bool := (List.range p.toNat).all (ptB p.toNat x y)
def boardS (p c h s : Int) (x y : List Int) : Bool := isVar p c h s && (sideB p c x && (sideB p c y && (!decide (IntKind.i64.wrap (wsum x + wsum y) = 0) && ptsB p x y)))
theorem var_nat {p c h s : Int} (hv : isVar p c h s = true) : ∃ q : Nat, p = q ∧ 2 ≤ q ∧ q ≤ 24 := by
  simp [isVar, inB] at hv
  exact ⟨p.toNat, by omega, by omega, by omega⟩
theorem side_len {q : Nat} {c : Int} {x : List Int} (hq : q ≤ 24) (h : sideB q c x = true) : x.length = q + 1 := by
  simp only [sideB, Bool.and_eq_true, decide_eq_true_eq] at h
  have := h.1
  rw [wrap64 (by omega)] at this
  omega

theorem rsBoard (p c h s : Int) (x y : List Int) (hx : x.length < 9223372036854775807) (hy : y.length < 9223372036854775807) :
    run Tryd.prog 33 [vA p c h s, bA x y] = some (.t (.bool (boardS p c h s x y)), []) := by
  refine run_go Tryd.func33 ok33 (by simp [Tryd.ntmps33]) rfl ?_
  have hv := rsVar p c h s
  have hs1 := rsSide p c h s x hx
  have hs2 := rsSide p c h s y hy
  have hu1 := rsSum x hx
  have hu2 := rsSum y hy
  cases h1 : isVar p c h s
  · rw [h1] at hv
    simp [vA] at hv
    simp [Tryd.f33, vA, bA, hv, boardS, h1]
  rw [h1] at hv
  cases h2 : sideB p c x
  · rw [h2] at hs1
    simp [vA, slT] at hv hs1
    simp [Tryd.f33, vA, bA, slT, hv, hs1, boardS, h1, h2]
  rw [h2] at hs1
  cases h3 : sideB p c y
  · rw [h3] at hs2
    simp [vA, slT] at hv hs1 hs2
    simp [Tryd.f33, vA, bA, slT, hv, hs1, hs2, boardS, h1, h2, h3]
  rw [h3] at hs2
  by_cases h4 : IntKind.i64.wrap (wsum x + wsum y) = 0
  · simp [vA, slT] at hv hs1 hs2 hu1 hu2
    simp [Tryd.f33, vA, bA, slT, hv, hs1, hs2, hu1, hu2, boardS, h1, h2, h3, h4]
  obtain ⟨q, rfl, hq2, hq⟩ := var_nat h1
  have lx := side_len hq h2
  have ly := side_len hq h3
  simp [vA, slT] at hv hs1 hs2 hu1 hu2
  simp [Tryd.f33, vA, bA, slT, hv, hs1, hs2, hu1, hu2, boardS, h1, h2, h3, h4]
  refine lsPts q c h s x y lx ly (by omega) _ (by simp [upd]) (by simp [upd, slT]) _ (fun e ha => ?_) (fun e ha e4 => ?_) _ 0 _ rfl (by omega) (by simp) (by simp [upd]) (by simp [upd]) (by simp [upd])
  · simp [Tryd.f33, ptsB, ha]
  · simp [Tryd.f33, ptsB, ha, e4]

theorem liPts (p : Nat) (c h s : Int) (x y : List Int) (hx : x.length = p + 1) (hy : y.length = p + 1) (hp : p < 9223372036854775806) (o : Obs)
    (ho : o 16 = (1, .box 34 [.t (.int .i64 p), .t (.int .i64 c), .t (.int .i64 h), .t (.int .i64 s)])) (ho2 : o 24 = (1, .box 35 [.t (slT x), .t (slT y)])) (Φ : Ex → St → Prop)
    (hT : ∀ e, (List.range p).all (ptB p x y) = true → Φ (.exit 0) ⟨e, o⟩) (hF : ∀ e, (List.range p).all (ptB p x y) = false → e 4 = .t (.bool false) → Φ .ret ⟨e, o⟩) (n : Nat) :
    ∀ (k : Nat) (e : Nat → AV), n = p - k → k ≤ p → (List.range k).all (ptB p x y) = true → e 2 = .ptr 16 1 0 → e 3 = .ptr 24 1 0 → e 36 = .t (.int .i64 p) → e 37 = .t (.int .i64 k) →
    To (loop Tryd.prog (loopAt Tryd.f43 0) ⟨e, o⟩) Φ := by
  generalize hc : loopAt Tryd.f43 0 = cd
  induction n with
  | zero =>
    intro k e hn hk ha h2 h3 h6 h5
    have hk' : k = p := by omega
    subst hk'
    refine loop_go hc ?_
    simp [Tryd.f43, h2, h3, h5, h6, ho, ho2]
    exact hT _ ha
  | succ n ih =>
    intro k e hn hk ha h2 h3 h6 h5
    have hk' : k < p := by omega
    have hkx : k < x.length := by omega
    have hky : p - 1 - k < y.length := by omega
    have hw := wrap_succ hk' (show p ≤ 9223372036854775807 by omega)
    have hw1 : IntKind.i64.wrap ((p : Int) - 1) = ((p - 1 : Nat) : Int) := by rw [wrap64 (by omega)]; omega
    have hw2 : IntKind.i64.wrap (((p - 1 : Nat) : Int) - (k : Int)) = ((p - 1 - k : Nat) : Int) := by rw [wrap64 (by omega)]; omega
    have hpt : ptB p x y k = !(decide (0 < x[k]) && decide (0 < y[p - 1 - k])) := by simp [ptB, hkx, hky]
    refine loop_go hc ?_
    by_cases h0 : 0 < x[k]
    · by_cases h1 : 0 < y[p - 1 - k]
      · simp [Tryd.f43, h2, h3, h5, h6, ho, ho2, hk', hkx, hky, Nat.le_of_lt hkx, Nat.le_of_lt hky, ints, slT, hw, hw1, hw2, h0, h1]
        refine hF _ ?_ (by simp [upd])
        rw [List.all_eq_false]
        exact ⟨k, by simpa using hk', by simp [hpt, h0, h1]⟩
      · simp [Tryd.f43, h2, h3, h5, h6, ho, ho2, hk', hkx, hky, Nat.le_of_lt hkx, Nat.le_of_lt hky, ints, slT, hw, hw1, hw2, h0, h1]
        exact ih (k + 1) _ (by omega) (by omega) (by rw [List.range_succ, List.all_append, ha]; simp [hpt, h1]) (by simp [upd, h2]) (by simp [upd, h3]) (by simp [upd, h6]) (by simp [upd])
    · simp [Tryd.f43, h2, h3, h5, h6, ho, ho2, hk', hkx, hky, Nat.le_of_lt hkx, Nat.le_of_lt hky, ints, slT, hw, hw1, hw2, h0]
      exact ih (k + 1) _ (by omega) (by omega) (by rw [List.range_succ, List.all_append, ha]; simp [hpt, h0]) (by simp [upd, h2]) (by simp [upd, h3]) (by simp [upd, h6]) (by simp [upd])

def boardI (p c h s : Int) (x y : List Int) : Bool := isVar p c h s && (sideI p c x && (sideI p c y && (!(decide (wsum x = 0) && decide (wsum y = 0)) && ptsB p x y)))
theorem sideI_len {q : Nat} {c : Int} {x : List Int} (hq : q ≤ 24) (h : sideI q c x = true) : x.length = q + 1 := by
  simp only [sideI, Bool.and_eq_true, decide_eq_true_eq] at h
  have := h.1
  rw [wrap64 (by omega)] at this
  omega

theorem riBoard (p c h s : Int) (x y : List Int) (hx : x.length < 9223372036854775807) (hy : y.length < 9223372036854775807) :
    run Tryd.prog 43 [vA p c h s, bA x y] = some (.t (.bool (boardI p c h s x y)), []) := by
  refine run_go Tryd.func43 ok43 (by simp [Tryd.ntmps43]) rfl ?_
  have hv := riVar p c h s
  have hs1 := riSide p c h s x hx
  have hs2 := riSide p c h s y hy
  have hu1 := riSum x hx
  have hu2 := riSum y hy
  cases h1 : isVar p c h s
  · rw [h1] at hv
    simp [vA] at hv
    simp [Tryd.f43, vA, bA, hv, boardI, h1]
  rw [h1] at hv
  cases h2 : sideI p c x
  · rw [h2] at hs1
    simp [vA, slT] at hv hs1
    simp [Tryd.f43, vA, bA, slT, hv, hs1, boardI, h1, h2]
  rw [h2] at hs1
  cases h3 : sideI p c y
  · rw [h3] at hs2
    simp [vA, slT] at hv hs1 hs2
    simp [Tryd.f43, vA, bA, slT, hv, hs1, hs2, boardI, h1, h2, h3]
  rw [h3] at hs2
  obtain ⟨q, rfl, hq2, hq⟩ := var_nat h1
  have lx := sideI_len hq h2
  have ly := sideI_len hq h3
  simp [vA, slT] at hv hs1 hs2 hu1 hu2
  by_cases h4 : wsum x = 0
  · by_cases h5 : wsum y = 0
    · simp [Tryd.f43, vA, bA, slT, hv, hs1, hs2, hu1, hu2, boardI, h1, h2, h3, h4, h5]
    · simp [Tryd.f43, vA, bA, slT, hv, hs1, hs2, hu1, hu2, boardI, h1, h2, h3, h4, h5]
      refine liPts q c h s x y lx ly (by omega) _ (by simp [upd]) (by simp [upd, slT]) _ (fun e ha => ?_) (fun e ha e4 => ?_) _ 0 _ rfl (by omega) (by simp) (by simp [upd]) (by simp [upd]) (by simp [upd]) (by simp [upd])
      · simp [Tryd.f43, ptsB, ha]
      · simp [Tryd.f43, ptsB, ha, e4]
  · simp [Tryd.f43, vA, bA, slT, hv, hs1, hs2, hu1, hu2, boardI, h1, h2, h3, h4]
    refine liPts q c h s x y lx ly (by omega) _ (by simp [upd]) (by simp [upd, slT]) _ (fun e ha => ?_) (fun e ha e4 => ?_) _ 0 _ rfl (by omega) (by simp) (by simp [upd]) (by simp [upd]) (by simp [upd]) (by simp [upd])
    · simp [Tryd.f43, ptsB, ha]
    · simp [Tryd.f43, ptsB, ha, e4]
end Go.AX
