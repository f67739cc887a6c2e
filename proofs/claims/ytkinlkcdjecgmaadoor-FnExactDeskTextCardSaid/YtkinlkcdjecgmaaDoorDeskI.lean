/- NUMBERS AS TEXTS. Printed by program from a template. -/
import Derived.Test.YtkinlkcdjecgmaaDoorDeskH
namespace Go.AX
open Go Go.Proofs
attribute [local simp] goX_nil goX_code goX_code_exit goX_code_ret goX_blk goX_blk_ret goX_blk_exit goR_some goB_true goB_false goC_seq goC_block goC_skip goC_exit goC_ret goC_loop goC_region goC_draw goC_cond finF_ret finF_normal finK_some lpΨ_normal lpΨ_exit lpΨ_ret runE_cons runE_nil runK_some runD_cons runD_nil runDK_some runDQ_true stepE_eq stepK_true stepK_false guardE_eq guardG_none guardG_some guardJ_some guardK_bool guardK_non effV_some cellsAt_ptr cellsAt_cp cellsK_box cellsK_row loadE_eq loadK_some loadC_struct loadC_int loadC_bool loadC_str loadC_slice loadC_ptr loadC_map fieldAddrE_eq fieldQ_some fieldK_ptr fieldK_cp map_eff tK_some binE_int binE_str eqK_some binE_eql_agg binE_neq_agg binE_eql_bool binE_neq_bool binE_eql_own binE_neq_own binE_eql_nil binE_neq_nil binE_eql_sl binE_neq_sl andK_some fsK_some eqFs_nil eqFs_cons eqCell_int eqCell_bool eqCell_str callE_eq callQ_some callK_some snapsA_cons snapsA_nil snapsAK_some aggK_some snapA_agg snapA_t snapA_fn snapA_own snaps_cons snaps_nil snapsK_some snap_t snap_own snapK_row ressE_cons ressE_nil ressK_some resE_tmp vK_some resE_cell codeOf opE St.app putS putO upd moveE pickE boxE allocE buildE buildSliceE storeE cellsOf fieldE indexAddrE indexE lenE appendE srcE makeSliceE minE maxE extractE sliceE boundE strE eqE nilQ intArithE unE convE bytesT strOf flatA flatB flat1 flatT flatOb newObs renA renB renT renOb ev ofVal enterS boxCell newOb nid joinE finishE outA outB outT outOb outOb' outIds addIds baseIds refs2 refsA refs1 boxRefs hO okE_nil okE_cons okQ_true okQ_false disE_nil disE_left disE_right apE_nil apE_cons rd_contains rd_mem idsW_nil idsW_cons tiedE evParts lay placeOf frz fz1 zeros Op.operands Call.operands Region.binds intBeq intBne List.idxOf?_cons loopAt loopsOf ti2 ti3 ti4 ti5 ti9 ti21 ti22 ti23 ti24 ti25 ti26 ti27 ti28 ti29 ti30 ti31 ti34 ti35 ti36 ti37 ti38 ti39 ti55 ti68 ti85 ti86 ti89 ti100 ti103
set_option maxRecDepth 100000
set_option maxHeartbeats 4000000

def digB (u : Nat) : ByteArray := ⟨(Lib.decDigits u).toArray⟩
theorem wrap8 {n : Int} (h : 0 ≤ n ∧ n ≤ 255) : IntKind.u8.wrap n = n := by
  simp [IntKind.wrap, IntKind.bits, IntKind.signed]; omega
theorem digB_small {u : Nat} (h : u < 10) : digB u = strOfNums [48 + (u : Int)] := by
  unfold digB strOfNums
  rw [Lib.decDigits, dif_pos h]
  have : (48 + (u : Int)).toNat = 48 + u := by omega
  simp [this]

theorem rFormat (n : Int) (h : -9223372036854775808 ≤ n ∧ n ≤ 9223372036854775807) : run Tryd.prog 48 [.t (.int .i64 n), .t (.int .i64 10)] = some (.t (.str (itoaB n)), []) := by
  have hp : run Tryd.prog 61 [.t (.int .i64 n), .t (.int .i64 10)] = some (.t (.str (itoaB n)), []) := by
    refine run_prim ?_
    simp [Prim.ans, itoaAns, h.1, h.2]
  refine run_go Tryd.func48 ok48 (by simp [Tryd.ntmps48]) rfl ?_
  simp [Tryd.f48, hp]
theorem riDecimal (n : Int) (h : -9223372036854775808 ≤ n ∧ n ≤ 9223372036854775807) : run Tryd.prog 25 [.t (.int .i64 n)] = some (.t (.str (itoaB n)), []) := by
  have hp := rFormat n h
  refine run_go Tryd.func25 ok25 (by simp [Tryd.ntmps25]) rfl ?_
  simp [Tryd.f25, hp]

theorem digB_big {u : Nat} (h : ¬ u < 10) : digB u = digB (u / 10) ++ strOfNums [48 + ((u % 10 : Nat) : Int)] := by
  unfold digB strOfNums
  rw [Lib.decDigits, dif_neg h]
  have : (48 + ((u % 10 : Nat) : Int)).toNat = 48 + u % 10 := by omega
  apply ByteArray.ext
  simp only [List.map_cons, List.map_nil, this, ByteArray.data_append]
  simp
theorem decDigits_le : ∀ (u : Nat), (Lib.decDigits u).length ≤ u + 1 := by
  intro u
  induction u using Nat.strongRecOn with
  | _ u ih =>
    rw [Lib.decDigits]
    by_cases h : u < 10
    · rw [dif_pos h]; simp
    · rw [dif_neg h]
      have := ih (u / 10) (by omega)
      simp only [List.length_append, List.length_cons, List.length_nil]
      omega
theorem digB_size (u : Nat) : (digB u).size ≤ u + 1 := by
  have := decDigits_le u
  simpa [digB, ByteArray.size] using this

theorem rsNumber (u : Nat) : u ≤ 1000000 → run Tryd.prog 37 [.t (.int .i64 u)] = some (.t (.str (digB u)), []) := by
  induction u using Nat.strongRecOn with
  | _ u ih =>
    intro hu
    refine run_go Tryd.func37 ok37 (by simp [Tryd.ntmps37]) rfl ?_
    by_cases h : u < 10
    · have h' : (u : Int) < 10 := by omega
      have w1 : IntKind.i64.wrap (48 + (u : Int)) = 48 + (u : Int) := wrap64 (by omega)
      have w2 : IntKind.u8.wrap (48 + (u : Int)) = 48 + (u : Int) := wrap8 (by omega)
      simp [Tryd.f37, h', w1, w2, digB_small h]
    · have h' : ¬ (u : Int) < 10 := by omega
      obtain ⟨q, hqd⟩ : ∃ q, q = u / 10 := ⟨_, rfl⟩
      obtain ⟨r, hrd⟩ : ∃ r, r = u % 10 := ⟨_, rfl⟩
      have hq := ih q (by omega) (by omega)
      have hb := digB_big h
      rw [← hqd, ← hrd] at hb
      have hz := digB_size q
      have q1 : IntKind.i64.wrap ((u : Int).tdiv 10) = (q : Int) := by
        rw [Int.tdiv_eq_ediv_of_nonneg (by omega), wrap64 (by omega)]; omega
      have q2 : (u : Int).tmod 10 = (r : Int) := by
        rw [Int.tmod_eq_emod_of_nonneg (by omega)]; omega
      have q3 : IntKind.i64.wrap ((u : Int) / 10) = (q : Int) := by rw [wrap64 (by omega)]; omega
      have q4 : (u : Int) % 10 = (r : Int) := by omega
      have w1 : IntKind.i64.wrap (48 + (r : Int)) = 48 + (r : Int) := wrap64 (by omega)
      have w2 : IntKind.u8.wrap (48 + (r : Int)) = 48 + (r : Int) := wrap8 (by omega)
      have hsz : (digB q).size + (strOfNums [48 + (r : Int)]).size ≤ 9223372036854775807 := by rw [strOfNums_size]; simp only [List.length_cons, List.length_nil]; omega
      simp [Tryd.f37, h', q1, q2, q3, q4, w1, w2, hq, hb, hsz]
end Go.AX
