/- TEXTS OF ROLLS. Printed by program from a template. -/
import Derived.Test.YtkinlkcdjecgmaaDoorDeskI
namespace Go.AX
open Go Go.Proofs
attribute [local simp] goX_nil goX_code goX_code_exit goX_code_ret goX_blk goX_blk_ret goX_blk_exit goR_some goB_true goB_false goC_seq goC_block goC_skip goC_exit goC_ret goC_loop goC_region goC_draw goC_cond finF_ret finF_normal finK_some lpΨ_normal lpΨ_exit lpΨ_ret runE_cons runE_nil runK_some runD_cons runD_nil runDK_some runDQ_true stepE_eq stepK_true stepK_false guardE_eq guardG_none guardG_some guardJ_some guardK_bool guardK_non effV_some cellsAt_ptr cellsAt_cp cellsK_box cellsK_row loadE_eq loadK_some loadC_struct loadC_int loadC_bool loadC_str loadC_slice loadC_ptr loadC_map fieldAddrE_eq fieldQ_some fieldK_ptr fieldK_cp map_eff tK_some binE_int binE_str eqK_some binE_eql_agg binE_neq_agg binE_eql_bool binE_neq_bool binE_eql_own binE_neq_own binE_eql_nil binE_neq_nil binE_eql_sl binE_neq_sl andK_some fsK_some eqFs_nil eqFs_cons eqCell_int eqCell_bool eqCell_str callE_eq callQ_some callK_some snapsA_cons snapsA_nil snapsAK_some aggK_some snapA_agg snapA_t snapA_fn snapA_own snaps_cons snaps_nil snapsK_some snap_t snap_own snapK_row ressE_cons ressE_nil ressK_some resE_tmp vK_some resE_cell codeOf opE St.app putS putO upd moveE pickE boxE allocE buildE buildSliceE storeE cellsOf fieldE indexAddrE indexE lenE appendE srcE makeSliceE minE maxE extractE sliceE boundE strE eqE nilQ intArithE unE convE bytesT strOf flatA flatB flat1 flatT flatOb newObs renA renB renT renOb ev ofVal enterS boxCell newOb nid joinE finishE outA outB outT outOb outOb' outIds addIds baseIds refs2 refsA refs1 boxRefs hO okE_nil okE_cons okQ_true okQ_false disE_nil disE_left disE_right apE_nil apE_cons rd_contains rd_mem idsW_nil idsW_cons tiedE evParts lay placeOf frz fz1 zeros Op.operands Call.operands Region.binds intBeq intBne List.idxOf?_cons loopAt loopsOf ti2 ti3 ti4 ti5 ti9 ti21 ti22 ti23 ti24 ti25 ti26 ti27 ti28 ti29 ti30 ti31 ti34 ti35 ti36 ti37 ti38 ti39 ti55 ti68 ti85 ti86 ti89 ti100 ti103
set_option maxRecDepth 100000
set_option maxHeartbeats 4000000

theorem itoa_nat (u : Nat) : itoaB (u : Int) = digB u := by
  unfold itoaB digB Lib.itoa
  rw [if_neg (by omega)]; simp
def rollT (p c h s a b : Int) : ByteArray := if isRoll p c h s a b then digB a.toNat ++ digB b.toNat else ⟨#[]⟩
theorem rsRollText (p c h s a b : Int) : run Tryd.prog 13 [vA p c h s, rA a b] = some (.t (.str (rollT p c h s a b)), []) := by
  refine run_go Tryd.func13 ok13 (by simp [Tryd.ntmps13]) rfl ?_
  have hr := rsRoll p c h s a b
  cases h1 : isRoll p c h s a b
  · rw [h1] at hr
    simp [vA, rA] at hr
    simp [Tryd.f13, vA, rA, hr, rollT, h1]
  · rw [h1] at hr
    have hb : (1 ≤ a ∧ a ≤ 6) ∧ 1 ≤ b ∧ b ≤ 6 := by simp [isRoll, isVar, inB] at h1; omega
    obtain ⟨x, rfl⟩ : ∃ x : Nat, a = x := ⟨a.toNat, by omega⟩
    obtain ⟨y, rfl⟩ : ∃ y : Nat, b = y := ⟨b.toNat, by omega⟩
    have r1 := rsNumber x (by omega)
    have r2 := rsNumber y (by omega)
    have s1 := digB_size x
    have s2 := digB_size y
    have hsz : (digB x).size + (digB y).size ≤ 9223372036854775807 := by omega
    simp [vA, rA] at hr
    simp [Tryd.f13, vA, rA, hr, r1, r2, hsz, rollT, h1]
theorem riRollText (p c h s a b : Int) : run Tryd.prog 22 [vA p c h s, rA a b] = some (.t (.str (rollT p c h s a b)), []) := by
  refine run_go Tryd.func22 ok22 (by simp [Tryd.ntmps22]) rfl ?_
  have hr := riRoll p c h s a b
  cases h1 : isRoll p c h s a b
  · rw [h1] at hr
    simp [vA, rA] at hr
    simp [Tryd.f22, vA, rA, hr, rollT, h1]
  · rw [h1] at hr
    have hb : (1 ≤ a ∧ a ≤ 6) ∧ 1 ≤ b ∧ b ≤ 6 := by simp [isRoll, isVar, inB] at h1; omega
    obtain ⟨x, rfl⟩ : ∃ x : Nat, a = x := ⟨a.toNat, by omega⟩
    obtain ⟨y, rfl⟩ : ∃ y : Nat, b = y := ⟨b.toNat, by omega⟩
    have r1 := riDecimal x (by omega)
    have r2 := riDecimal y (by omega)
    rw [itoa_nat] at r1 r2
    have s1 := digB_size x
    have s2 := digB_size y
    have hsz : (digB x).size + (digB y).size ≤ 9223372036854775807 := by omega
    simp [vA, rA] at hr
    simp [Tryd.f22, vA, rA, hr, r1, r2, hsz, rollT, h1]

def varT (p c h s : Int) : ByteArray := if isVar p c h s then ((((((digB p.toNat ++ ⟨#[47]⟩) ++ digB c.toNat) ++ ⟨#[47]⟩) ++ digB h.toNat) ++ ⟨#[47]⟩) ++ digB s.toNat) else ⟨#[]⟩
theorem rsVarText (p c h s : Int) : run Tryd.prog 14 [vA p c h s] = some (.t (.str (varT p c h s)), []) := by
  refine run_go Tryd.func14 ok14 (by simp [Tryd.ntmps14]) rfl ?_
  have hr := rsVar p c h s
  cases h1 : isVar p c h s
  · rw [h1] at hr
    simp [vA] at hr
    simp [Tryd.f14, vA, hr, varT, h1]
  · rw [h1] at hr
    have hb : (2 ≤ p ∧ p ≤ 24) ∧ (1 ≤ c ∧ c ≤ 15) ∧ (1 ≤ h ∧ h ≤ 24) ∧ (1 ≤ s ∧ s ≤ 6) := by simp [isVar, inB] at h1; omega
    obtain ⟨p', rfl⟩ : ∃ x : Nat, p = x := ⟨p.toNat, by omega⟩
    obtain ⟨c', rfl⟩ : ∃ x : Nat, c = x := ⟨c.toNat, by omega⟩
    obtain ⟨h', rfl⟩ : ∃ x : Nat, h = x := ⟨h.toNat, by omega⟩
    obtain ⟨s', rfl⟩ : ∃ x : Nat, s = x := ⟨s.toNat, by omega⟩
    have r1 := rsNumber p' (by omega)
    have r2 := rsNumber c' (by omega)
    have r3 := rsNumber h' (by omega)
    have r4 := rsNumber s' (by omega)
    have s1 := digB_size p'
    have s2 := digB_size c'
    have s3 := digB_size h'
    have s4 := digB_size s'
    have hz : (⟨#[47]⟩ : ByteArray).size = 1 := rfl
    have z1 : (digB p').size + 1 ≤ 9223372036854775807 := by omega
    have z2 : (digB p').size + 1 + (digB c').size ≤ 9223372036854775807 := by omega
    have z3 : (digB p').size + 1 + (digB c').size + 1 ≤ 9223372036854775807 := by omega
    have z4 : (digB p').size + 1 + (digB c').size + 1 + (digB h').size ≤ 9223372036854775807 := by omega
    have z5 : (digB p').size + 1 + (digB c').size + 1 + (digB h').size + 1 ≤ 9223372036854775807 := by omega
    have z6 : (digB p').size + 1 + (digB c').size + 1 + (digB h').size + 1 + (digB s').size ≤ 9223372036854775807 := by omega
    simp [vA] at hr
    simp [Tryd.f14, vA, hr, r1, r2, r3, r4, hz, z1, z2, z3, z4, z5, z6, ByteArray.size_append, varT, h1]
end Go.AX
