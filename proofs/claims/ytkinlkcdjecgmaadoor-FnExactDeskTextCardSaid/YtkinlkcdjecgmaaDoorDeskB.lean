/- THE GAME's SMALL FUNCTIONS: what each answers, once. Printed by program from a template. -/
import Derived.Test.YtkinlkcdjecgmaaDoorDeskA
namespace Go.AX
open Go Go.Proofs
attribute [local simp] goX_nil goX_code goX_code_exit goX_code_ret goX_blk goX_blk_ret goX_blk_exit goR_some goB_true goB_false goC_seq goC_block goC_skip goC_exit goC_ret goC_loop goC_region goC_draw goC_cond finF_ret finF_normal finK_some lpΨ_normal lpΨ_exit lpΨ_ret runE_cons runE_nil runK_some runD_cons runD_nil runDK_some runDQ_true stepE_eq stepK_true stepK_false guardE_eq guardG_none guardG_some guardJ_some guardK_bool guardK_non effV_some cellsAt_ptr cellsAt_cp cellsK_box cellsK_row loadE_eq loadK_some loadC_struct loadC_int loadC_bool loadC_str loadC_slice loadC_ptr loadC_map fieldAddrE_eq fieldQ_some fieldK_ptr fieldK_cp map_eff tK_some binE_int binE_str eqK_some binE_eql_agg binE_neq_agg binE_eql_bool binE_neq_bool binE_eql_own binE_neq_own binE_eql_nil binE_neq_nil binE_eql_sl binE_neq_sl andK_some fsK_some eqFs_nil eqFs_cons eqCell_int eqCell_bool eqCell_str callE_eq callQ_some callK_some snapsA_cons snapsA_nil snapsAK_some aggK_some snapA_agg snapA_t snapA_fn snapA_own snaps_cons snaps_nil snapsK_some snap_t snap_own snapK_row ressE_cons ressE_nil ressK_some resE_tmp vK_some resE_cell codeOf opE St.app putS putO upd moveE pickE boxE allocE buildE buildSliceE storeE cellsOf fieldE indexAddrE indexE lenE appendE srcE makeSliceE minE maxE extractE sliceE boundE strE eqE nilQ intArithE unE convE bytesT strOf flatA flatB flat1 flatT flatOb newObs renA renB renT renOb ev ofVal enterS boxCell newOb nid joinE finishE outA outB outT outOb outOb' outIds addIds baseIds refs2 refsA refs1 boxRefs hO okE_nil okE_cons okQ_true okQ_false disE_nil disE_left disE_right apE_nil apE_cons rd_contains rd_mem idsW_nil idsW_cons tiedE evParts lay placeOf frz fz1 zeros Op.operands Call.operands Region.binds intBeq intBne List.idxOf?_cons loopAt loopsOf ti2 ti3 ti4 ti5 ti9 ti21 ti22 ti23 ti24 ti25 ti26 ti27 ti28 ti29 ti30 ti31 ti34 ti35 ti36 ti37 ti38 ti39 ti55 ti68 ti85 ti86 ti89 ti100 ti103
set_option maxRecDepth 100000

theorem rIn (n lo hi : Int) : run Tryd.prog 55 [.t (.int .i64 n), .t (.int .i64 lo), .t (.int .i64 hi)] = some (.t (.bool (inB n lo hi)), []) := by
  refine run_go Tryd.func55 ok55 (by simp [Tryd.ntmps55]) rfl ?_
  by_cases h : lo ≤ n
  · simp [Tryd.f55, inB, h]
  · simp [Tryd.f55, inB, h]
theorem rWithin (n lo hi : Int) : run Tryd.prog 58 [.t (.int .i64 n), .t (.int .i64 lo), .t (.int .i64 hi)] = some (.t (.bool (inB n lo hi)), []) := by
  refine run_go Tryd.func58 ok58 (by simp [Tryd.ntmps58]) rfl ?_
  by_cases h : lo ≤ n
  · simp [Tryd.f58, inB, h]
  · simp [Tryd.f58, inB, h]

theorem rsVar (p c h s : Int) : run Tryd.prog 38 [vA p c h s] = some (.t (.bool (isVar p c h s)), []) := by
  refine run_go Tryd.func38 ok38 (by simp [Tryd.ntmps38]) rfl ?_
  cases h1 : inB p 2 24
  · simp [Tryd.f38, rIn, vA, isVar, h1]
  cases h2 : inB c 1 15
  · simp [Tryd.f38, rIn, vA, isVar, h1, h2]
  cases h3 : inB h 1 p
  · simp [Tryd.f38, rIn, vA, isVar, h1, h2, h3]
  · simp [Tryd.f38, rIn, vA, isVar, h1, h2, h3]
theorem riVar (p c h s : Int) : run Tryd.prog 42 [vA p c h s] = some (.t (.bool (isVar p c h s)), []) := by
  refine run_go Tryd.func42 ok42 (by simp [Tryd.ntmps42]) rfl ?_
  cases h1 : inB p 2 24
  · simp [Tryd.f42, rWithin, vA, isVar, h1]
  cases h2 : inB c 1 15
  · simp [Tryd.f42, rWithin, vA, isVar, h1, h2]
  cases h3 : inB h 1 p
  · simp [Tryd.f42, rWithin, vA, isVar, h1, h2, h3]
  · simp [Tryd.f42, rWithin, vA, isVar, h1, h2, h3]

theorem rsNone (a b : Int) : run Tryd.prog 12 [rA a b] = some (.t (.bool (decide (a = 0) && decide (b = 0))), []) := by
  refine run_go Tryd.func12 ok12 (by simp [Tryd.ntmps12]) rfl ?_
  by_cases h : a = 0
  · simp [Tryd.f12, rA, h]
  · simp [Tryd.f12, rA, h]
theorem rsStart (p c h s : Int) : run Tryd.prog 32 [vA p c h s] = some (.t (.bool (isVar p c h s && decide (4 ≤ p))), []) := by
  refine run_go Tryd.func32 ok32 (by simp [Tryd.ntmps32]) rfl ?_
  have hv := rsVar p c h s
  cases h1 : isVar p c h s
  · simp [vA, h1] at hv; simp [Tryd.f32, vA, hv]
  · simp [vA, h1] at hv; simp [Tryd.f32, vA, hv]
theorem rs10Roll (p c h s a b : Int) : run Tryd.prog 34 [vA p c h s, rA a b] = some (.t (.bool (inB a 1 s && inB b 1 a)), []) := by
  refine run_go Tryd.func34 ok34 (by simp [Tryd.ntmps34]) rfl ?_
  cases h1 : inB a 1 s
  · simp [Tryd.f34, vA, rA, rIn, h1]
  · simp [Tryd.f34, vA, rA, rIn, h1]
theorem rsSeed (n : Int) : run Tryd.prog 35 [.t (.int .i64 n)] = some (.t (.bool (inB n 1 2147483646)), []) := by
  refine run_go Tryd.func35 ok35 (by simp [Tryd.ntmps35]) rfl ?_
  simp [Tryd.f35, rIn]
theorem riSeed (n : Int) : run Tryd.prog 44 [.t (.int .i64 n)] = some (.t (.bool (inB n 1 2147483646)), []) := by
  refine run_go Tryd.func44 ok44 (by simp [Tryd.ntmps44]) rfl ?_
  simp [Tryd.f44, rWithin]
theorem rsRoll (p c h s a b : Int) : run Tryd.prog 36 [vA p c h s, rA a b] = some (.t (.bool (isRoll p c h s a b)), []) := by
  refine run_go Tryd.func36 ok36 (by simp [Tryd.ntmps36]) rfl ?_
  have hv := rsVar p c h s
  cases h1 : isVar p c h s
  · simp [vA, h1] at hv; simp [Tryd.f36, vA, rA, hv, isRoll, h1]
  · simp [vA, h1] at hv
    cases h2 : inB a 1 s
    · simp [Tryd.f36, vA, rA, hv, rIn, isRoll, h1, h2]
    · simp [Tryd.f36, vA, rA, hv, rIn, isRoll, h1, h2]
theorem riRoll (p c h s a b : Int) : run Tryd.prog 45 [vA p c h s, rA a b] = some (.t (.bool (isRoll p c h s a b)), []) := by
  refine run_go Tryd.func45 ok45 (by simp [Tryd.ntmps45]) rfl ?_
  have hv := riVar p c h s
  cases h1 : isVar p c h s
  · simp [vA, h1] at hv; simp [Tryd.f45, vA, rA, hv, isRoll, h1]
  · simp [vA, h1] at hv
    cases h2 : inB a 1 s
    · simp [Tryd.f45, vA, rA, hv, rWithin, isRoll, h1, h2]
    · simp [Tryd.f45, vA, rA, hv, rWithin, isRoll, h1, h2]
end Go.AX
