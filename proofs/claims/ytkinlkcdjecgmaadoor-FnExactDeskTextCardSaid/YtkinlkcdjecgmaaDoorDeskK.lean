/- NUMBERS JOINED (in work). Printed by program from a template. -/
import Derived.Test.YtkinlkcdjecgmaaDoorDeskJ
namespace Go.AX
open Go Go.Proofs
attribute [local simp] goX_nil goX_code goX_code_exit goX_code_ret goX_blk goX_blk_ret goX_blk_exit goR_some goB_true goB_false goC_seq goC_block goC_skip goC_exit goC_ret goC_loop goC_region goC_draw goC_cond finF_ret finF_normal finK_some lpΨ_normal lpΨ_exit lpΨ_ret runE_cons runE_nil runK_some runD_cons runD_nil runDK_some runDQ_true stepE_eq stepK_true stepK_false guardE_eq guardG_none guardG_some guardJ_some guardK_bool guardK_non effV_some cellsAt_ptr cellsAt_cp cellsK_box cellsK_row loadE_eq loadK_some loadC_struct loadC_int loadC_bool loadC_str loadC_slice loadC_ptr loadC_map fieldAddrE_eq fieldQ_some fieldK_ptr fieldK_cp map_eff tK_some binE_int binE_str eqK_some binE_eql_agg binE_neq_agg binE_eql_bool binE_neq_bool binE_eql_own binE_neq_own binE_eql_nil binE_neq_nil binE_eql_sl binE_neq_sl andK_some fsK_some eqFs_nil eqFs_cons eqCell_int eqCell_bool eqCell_str callE_eq callQ_some callK_some snapsA_cons snapsA_nil snapsAK_some aggK_some snapA_agg snapA_t snapA_fn snapA_own snaps_cons snaps_nil snapsK_some snap_t snap_own snapK_row ressE_cons ressE_nil ressK_some resE_tmp vK_some resE_cell codeOf opE St.app putS putO upd moveE pickE boxE allocE buildE buildSliceE storeE cellsOf fieldE indexAddrE indexE lenE appendE srcE makeSliceE minE maxE extractE sliceE boundE strE eqE nilQ intArithE unE convE bytesT strOf flatA flatB flat1 flatT flatOb newObs renA renB renT renOb ev ofVal enterS boxCell newOb nid joinE finishE outA outB outT outOb outOb' outIds addIds baseIds refs2 refsA refs1 boxRefs hO okE_nil okE_cons okQ_true okQ_false disE_nil disE_left disE_right apE_nil apE_cons rd_contains rd_mem idsW_nil idsW_cons tiedE evParts lay placeOf frz fz1 zeros Op.operands Call.operands Region.binds intBeq intBne List.idxOf?_cons loopAt loopsOf ti2 ti3 ti4 ti5 ti9 ti21 ti22 ti23 ti24 ti25 ti26 ti27 ti28 ti29 ti30 ti31 ti34 ti35 ti36 ti37 ti38 ti39 ti55 ti68 ti85 ti86 ti89 ti100 ti103
set_option maxRecDepth 100000
set_option maxHeartbeats 4000000

def strs (l : List Int) : List T := l.map fun n => .str (itoaB n)
def inI64 (n : Int) : Prop := -9223372036854775808 ≤ n ∧ n ≤ 9223372036854775807
theorem liJoin (l : List Int) (sep : ByteArray) (hl : l.length < 1000) (hs : ∀ n ∈ l, inI64 n) (Φ : Ex → St → Prop)
    (hT : ∀ e o, e 1 = .t (.str sep) → e 5 = .own 80 1 → o 80 = (1, .row false true 9 1 l.length (strs l)) → Φ (.exit 0) ⟨e, o⟩) (n : Nat) :
    ∀ (k : Nat) (e : Nat → AV) (o : Obs), n = l.length - k → k ≤ l.length → e 1 = .t (.str sep) → e 5 = .own 80 1 → e 11 = .t (slT l) → e 12 = .t (.int .i64 l.length) → e 13 = .t (.int .i64 k) →
    o 80 = (1, .row false true 9 1 l.length (strs (l.take k) ++ List.replicate (l.length - k) (.str ⟨#[]⟩))) →
    To (loop Tryd.prog (loopAt Tryd.f46 0) ⟨e, o⟩) Φ := by
  generalize hc : loopAt Tryd.f46 0 = cd
  induction n with
  | zero =>
    intro k e o hn hk h1 h5 h11 h12 h13 ho
    have hk' : k = l.length := by omega
    subst hk'
    refine loop_go hc ?_
    simp [Tryd.f46, h11, h12, h13, slT]
    exact hT _ _ (by simp [upd, h1]) (by simp [upd, h5]) (by simpa using ho)
  | succ n ih =>
    intro k e o hn hk h1 h5 h11 h12 h13 ho
    have hk' : k < l.length := by omega
    have hw := wrap_succ hk' (show l.length ≤ 9223372036854775807 by omega)
    have hd := riDecimal l[k] (hs _ (List.getElem_mem hk'))
    have hlen : (strs (l.take k)).length = k := by simp [strs]; omega
    have hle : k + 1 ≤ k + (l.length - k) := by omega
    refine loop_go hc ?_
    simp [Tryd.f46, hlen, hle, Nat.succ_le_of_lt hk', h5, h11, h12, h13, ho, slT, ints, hk', hk, hw, hd]
    have he : strs (l.take k) ++ T.str (itoaB l[k]) :: List.drop (k + 1) (strs (l.take k) ++ List.replicate (l.length - k) (.str ⟨#[]⟩)) = strs (l.take (k + 1)) ++ List.replicate (l.length - (k + 1)) (.str ⟨#[]⟩) := by
      rw [List.drop_append, hlen, List.drop_of_length_le (by omega), List.nil_append, List.drop_replicate, List.take_add_one, List.getElem?_eq_getElem hk']
      simp only [strs, List.map_append, Option.toList_some, List.map_cons, List.map_nil, List.append_assoc, List.cons_append, List.nil_append]
      congr 3; omega
    exact ih (k + 1) _ _ (by omega) (by omega) (by simp [upd, h1]) (by simp [upd, h5]) (by simp [upd, h11, slT, ints]) (by simp [upd, h12]) (by simp [upd]) (by simp only [upd, if_true, he])

theorem strs_strsT : ∀ (l : List Int), strsT (strs l) = some (l.map itoaB)
  | [] => rfl
  | n :: l => by
    have := strs_strsT l
    unfold strs at this ⊢
    simp only [List.map_cons, strsT, this, Option.map_some]

theorem riJoin (l : List Int) (sep : ByteArray) (hl : l.length < 1000) (hs : ∀ n ∈ l, inI64 n) (hj : (Lib.join ((l.map itoaB).map (·.data.toList)) sep.data.toList).length ≤ 140737488355328) :
    run Tryd.prog 46 [.t (slT l), .t (.str sep)] = some (.t (.str (joinB (l.map itoaB) sep)), []) := by
  have hp : run Tryd.prog 26 [.t (.sl l.length (strs l)), .t (.str sep)] = some (.t (.str (joinB (l.map itoaB) sep)), []) := by
    refine run_prim ?_
    simp only [Prim.ans, joinAns, strs_strsT, if_true]
    rw [if_pos ⟨by simp, by omega, hj⟩]
  refine run_go Tryd.func46 ok46 (by simp [Tryd.ntmps46]) rfl ?_
  have hz : zeros [T.str ⟨#[]⟩] l.length = List.replicate l.length (.str ⟨#[]⟩) := by
    induction l.length with
    | zero => rfl
    | succ n ih => simp [zeros, ih, List.replicate_succ]
  have hb : (l.length : Int) * 16 ≤ 140737488355328 := by omega
  have hb2 : (l.length : Int) ≤ 140737488355328 := by omega
  simp [Tryd.f46, slT, hb, hb2]
  refine goL_of (liJoin l sep hl hs _ (fun e o e1 e5 ho => ?_) _ 0 _ _ rfl (by omega) (by simp [upd]) (by simp [upd]) (by simp [upd, slT]) (by simp [upd]) (by simp [upd]) (by simp [upd, strs, ← hz, zeros])) (fun _ _ h => h)
  simp [Tryd.f46, e1, e5, ho, hp]
end Go.AX
