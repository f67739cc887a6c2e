/- SIDES AND BOARDS, as the program sees them. Printed by program from a template. -/
import Derived.Test.YtkinlkcdjecgmaaDoorDeskC
namespace Go.AX
open Go Go.Proofs
attribute [local simp] goX_nil goX_code goX_code_exit goX_code_ret goX_blk goX_blk_ret goX_blk_exit goR_some goB_true goB_false goC_seq goC_block goC_skip goC_exit goC_ret goC_loop goC_region goC_draw goC_cond finF_ret finF_normal finK_some lpΨ_normal lpΨ_exit lpΨ_ret runE_cons runE_nil runK_some runD_cons runD_nil runDK_some runDQ_true stepE_eq stepK_true stepK_false guardE_eq guardG_none guardG_some guardJ_some guardK_bool guardK_non effV_some cellsAt_ptr cellsAt_cp cellsK_box cellsK_row loadE_eq loadK_some loadC_struct loadC_int loadC_bool loadC_str loadC_slice loadC_ptr loadC_map fieldAddrE_eq fieldQ_some fieldK_ptr fieldK_cp map_eff tK_some binE_int binE_str eqK_some binE_eql_agg binE_neq_agg binE_eql_bool binE_neq_bool binE_eql_own binE_neq_own binE_eql_nil binE_neq_nil binE_eql_sl binE_neq_sl andK_some fsK_some eqFs_nil eqFs_cons eqCell_int eqCell_bool eqCell_str callE_eq callQ_some callK_some snapsA_cons snapsA_nil snapsAK_some aggK_some snapA_agg snapA_t snapA_fn snapA_own snaps_cons snaps_nil snapsK_some snap_t snap_own snapK_row ressE_cons ressE_nil ressK_some resE_tmp vK_some resE_cell codeOf opE St.app putS putO upd moveE pickE boxE allocE buildE buildSliceE storeE cellsOf fieldE indexAddrE indexE lenE appendE srcE makeSliceE minE maxE extractE sliceE boundE strE eqE nilQ intArithE unE convE bytesT strOf flatA flatB flat1 flatT flatOb newObs renA renB renT renOb ev ofVal enterS boxCell newOb nid joinE finishE outA outB outT outOb outOb' outIds addIds baseIds refs2 refsA refs1 boxRefs hO okE_nil okE_cons okQ_true okQ_false disE_nil disE_left disE_right apE_nil apE_cons rd_contains rd_mem idsW_nil idsW_cons tiedE evParts lay placeOf frz fz1 zeros Op.operands Call.operands Region.binds intBeq intBne List.idxOf?_cons loopAt loopsOf ti2 ti3 ti4 ti5 ti9 ti21 ti22 ti23 ti24 ti25 ti26 ti27 ti28 ti29 ti30 ti31 ti34 ti35 ti36 ti37 ti38 ti39 ti55 ti68 ti85 ti86 ti89 ti100 ti103
set_option maxRecDepth 100000
set_option maxHeartbeats 2000000

def sideGo : Int → List Int → Bool
  | _, [] => true
  | left, n :: ns => if n < 0 ∨ left < n then false else sideGo (IntKind.i64.wrap (left - n)) ns

theorem liSide (c : Int) (l : List Int) (hl : l.length < 9223372036854775807) (o : Obs) (Φ : Ex → St → Prop)
    (hT : ∀ e, sideGo c l = true → Φ (.exit 0) ⟨e, o⟩) (hF : ∀ e, sideGo c l = false → e 4 = .t (.bool false) → Φ .ret ⟨e, o⟩) (n : Nat) :
    ∀ (k : Nat) (left : Int) (e : Nat → AV), n = l.length - k → k ≤ l.length → sideGo c l = sideGo left (l.drop k) → e 16 = .t (slT l) → e 17 = .t (.int .i64 l.length) → e 18 = .t (.int .i64 k) → e 5 = .t (.int .i64 left) →
    To (loop Tryd.prog (loopAt Tryd.f59 0) ⟨e, o⟩) Φ := by
  generalize hc : loopAt Tryd.f59 0 = cd
  induction n with
  | zero =>
    intro k left e hn hk ha h16 h17 h18 h5
    have hk' : k = l.length := by omega
    subst hk'
    rw [List.drop_length] at ha
    refine loop_go hc ?_
    simp [Tryd.f59, h16, h17, h18, h5, slT]
    exact hT _ ha
  | succ n ih =>
    intro k left e hn hk ha h16 h17 h18 h5
    have hk' : k < l.length := by omega
    have hw := wrap_succ hk' (Nat.le_of_lt hl)
    rw [List.drop_eq_getElem_cons hk', sideGo] at ha
    refine loop_go hc ?_
    by_cases h0 : l[k] < 0
    · simp [h0] at ha
      simp [Tryd.f59, h16, h17, h18, h5, hk', hk, ints, slT, hw, h0]
      exact hF _ ha (by simp [upd])
    · by_cases h1 : left < l[k]
      · simp [h1] at ha
        simp [Tryd.f59, h16, h17, h18, h5, hk', hk, ints, slT, hw, h0, h1]
        exact hF _ ha (by simp [upd])
      · simp only [h0, h1, or_self, if_false] at ha
        simp [Tryd.f59, h16, h17, h18, h5, hk', hk, ints, slT, hw, h0, h1]
        exact ih (k + 1) _ _ (by omega) (by omega) ha (by simp [upd, h16, slT, ints]) (by simp [upd, h17]) (by simp [upd]) (by simp [upd])

def sideI (p c : Int) (l : List Int) : Bool := decide ((l.length : Int) = IntKind.i64.wrap (p + 1)) && sideGo c l
theorem riSide (p c h s : Int) (l : List Int) (hl : l.length < 9223372036854775807) : run Tryd.prog 59 [vA p c h s, .t (slT l)] = some (.t (.bool (sideI p c l)), []) := by
  refine run_go Tryd.func59 ok59 (by simp [Tryd.ntmps59]) rfl ?_
  by_cases h1 : (l.length : Int) = IntKind.i64.wrap (p + 1)
  · simp [Tryd.f59, vA, slT, ← h1]
    refine liSide c l hl _ _ (fun e ha => ?_) (fun e ha e4 => ?_) _ 0 c _ rfl (by omega) (by simp) (by simp [upd, slT]) (by simp [upd]) (by simp [upd]) (by simp [upd])
    · simp [Tryd.f59, ← h1, sideI, ha]
    · simp [Tryd.f59, e4, ← h1, sideI, ha]
  · simp [Tryd.f59, vA, slT, h1, sideI]

/-! ### boards -/
def ptB (p : Nat) (x y : List Int) (i : Nat) : Bool := !(decide (0 < x.getD i 0) && decide (0 < y.getD (p - 1 - i) 0))
theorem lsPts (p : Nat) (c h s : Int) (x y : List Int) (hx : x.length = p + 1) (hy : y.length = p + 1) (hp : p < 9223372036854775806) (o : Obs)
    (ho : o 16 = (1, .box 34 [.t (.int .i64 p), .t (.int .i64 c), .t (.int .i64 h), .t (.int .i64 s)])) (ho2 : o 24 = (1, .box 35 [.t (slT x), .t (slT y)])) (Φ : Ex → St → Prop)
    (hT : ∀ e, (List.range p).all (ptB p x y) = true → Φ (.exit 0) ⟨e, o⟩) (hF : ∀ e, (List.range p).all (ptB p x y) = false → e 4 = .t (.bool false) → Φ .ret ⟨e, o⟩) (n : Nat) :
    ∀ (k : Nat) (e : Nat → AV), n = p - k → k ≤ p → (List.range k).all (ptB p x y) = true → e 2 = .ptr 16 1 0 → e 3 = .ptr 24 1 0 → e 5 = .t (.int .i64 k) →
    To (loop Tryd.prog (loopAt Tryd.f33 0) ⟨e, o⟩) Φ := by
  generalize hc : loopAt Tryd.f33 0 = cd
  induction n with
  | zero =>
    intro k e hn hk ha h2 h3 h5
    have hk' : k = p := by omega
    subst hk'
    refine loop_go hc ?_
    simp [Tryd.f33, h2, h3, h5, ho, ho2]
    exact hT _ ha
  | succ n ih =>
    intro k e hn hk ha h2 h3 h5
    have hk' : k < p := by omega
    have hkx : k < x.length := by omega
    have hky : p - 1 - k < y.length := by omega
    have hw := wrap_succ hk' (show p ≤ 9223372036854775807 by omega)
    have hw1 : IntKind.i64.wrap ((p : Int) - 1) = ((p - 1 : Nat) : Int) := by rw [wrap64 (by omega)]; omega
    have hw2 : IntKind.i64.wrap (((p - 1 : Nat) : Int) - (k : Int)) = ((p - 1 - k : Nat) : Int) := by rw [wrap64 (by omega)]; omega
    have hpt : ptB p x y k = !(decide (0 < x[k]) && decide (0 < y[p - 1 - k])) := by simp [ptB, hkx, hky]
    refine loop_go hc ?_
    by_cases h0 : 0 < x[k]
    · by_cases h1 : 0 < y[p - 1 - k]
      · simp [Tryd.f33, h2, h3, h5, ho, ho2, hk', hkx, hky, Nat.le_of_lt hkx, Nat.le_of_lt hky, ints, slT, hw, hw1, hw2, h0, h1]
        refine hF _ ?_ (by simp [upd])
        rw [List.all_eq_false]
        exact ⟨k, by simpa using hk', by simp [hpt, h0, h1]⟩
      · simp [Tryd.f33, h2, h3, h5, ho, ho2, hk', hkx, hky, Nat.le_of_lt hkx, Nat.le_of_lt hky, ints, slT, hw, hw1, hw2, h0, h1]
        exact ih (k + 1) _ (by omega) (by omega) (by rw [List.range_succ, List.all_append, ha]; simp [hpt, h1]) (by simp [upd, h2]) (by simp [upd, h3]) (by simp [upd])
    · simp [Tryd.f33, h2, h3, h5, ho, ho2, hk', hkx, hky, Nat.le_of_lt hkx, Nat.le_of_lt hky, ints, slT, hw, hw1, hw2, h0]
      exact ih (k + 1) _ (by omega) (by omega) (by rw [List.range_succ, List.all_append, ha]; simp [hpt, h0]) (by simp [upd, h2]) (by simp [upd, h3]) (by simp [upd])
end Go.AX
