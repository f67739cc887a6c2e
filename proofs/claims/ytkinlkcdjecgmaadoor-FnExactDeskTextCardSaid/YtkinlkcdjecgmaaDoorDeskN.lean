/- A BOARD's BITS (the reference's). Printed by program from a template. -/
import Derived.Test.YtkinlkcdjecgmaaDoorDeskM
namespace Go.AX
open Go Go.Proofs
attribute [local simp] goX_nil goX_code goX_code_exit goX_code_ret goX_blk goX_blk_ret goX_blk_exit goR_some goB_true goB_false goC_seq goC_block goC_skip goC_exit goC_ret goC_loop goC_region goC_draw goC_cond finF_ret finF_normal finK_some lpΨ_normal lpΨ_exit lpΨ_ret runE_cons runE_nil runK_some runD_cons runD_nil runDK_some runDQ_true stepE_eq stepK_true stepK_false guardE_eq guardG_none guardG_some guardJ_some guardK_bool guardK_non effV_some cellsAt_ptr cellsAt_cp cellsK_box cellsK_row loadE_eq loadK_some loadC_struct loadC_int loadC_bool loadC_str loadC_slice loadC_ptr loadC_map fieldAddrE_eq fieldQ_some fieldK_ptr fieldK_cp map_eff tK_some binE_int binE_str eqK_some binE_eql_agg binE_neq_agg binE_eql_bool binE_neq_bool binE_eql_own binE_neq_own binE_eql_nil binE_neq_nil binE_eql_sl binE_neq_sl andK_some fsK_some eqFs_nil eqFs_cons eqCell_int eqCell_bool eqCell_str callE_eq callQ_some callK_some snapsA_cons snapsA_nil snapsAK_some aggK_some snapA_agg snapA_t snapA_fn snapA_own snaps_cons snaps_nil snapsK_some snap_t snap_own snapK_row ressE_cons ressE_nil ressK_some resE_tmp vK_some resE_cell codeOf opE St.app putS putO upd moveE pickE boxE allocE buildE buildSliceE storeE cellsOf fieldE indexAddrE indexE lenE appendE srcE makeSliceE minE maxE extractE sliceE boundE strE eqE nilQ intArithE unE convE bytesT strOf flatA flatB flat1 flatT flatOb newObs renA renB renT renOb ev ofVal enterS boxCell newOb nid joinE finishE outA outB outT outOb outOb' outIds addIds baseIds refs2 refsA refs1 boxRefs hO okE_nil okE_cons okQ_true okQ_false disE_nil disE_left disE_right apE_nil apE_cons rd_contains rd_mem idsW_nil idsW_cons tiedE evParts lay placeOf frz fz1 zeros Op.operands Call.operands Region.binds intBeq intBne List.idxOf?_cons loopAt loopsOf ti2 ti3 ti4 ti5 ti9 ti21 ti22 ti23 ti24 ti25 ti26 ti27 ti28 ti29 ti30 ti31 ti34 ti35 ti36 ti37 ti38 ti39 ti55 ti68 ti85 ti86 ti89 ti100 ti103
set_option maxRecDepth 100000
set_option maxHeartbeats 4000000

theorem rs02Own (l : List Int) (hl : l.length ≤ 10000000) : run Tryd.prog 57 [.t (slT l)] = some (.own 0 0, [.row false true 2 1 l.length (ints l)]) := by
  have h1 : l.length ≤ 140737488355328 := by omega
  have h2 : l.length * 8 ≤ 140737488355328 := by omega
  refine run_go Tryd.func57 ok57 (by simp [Tryd.ntmps57]) rfl ?_
  simp [Tryd.f57, slT, ints_length, h1, h2]

theorem lsOnes (all : List Int) (i : Nat) (hi : i < all.length) (c : Nat) (hcv : all[i] = (c : Int)) (va : Nat) (nn : Bool) (Φ : Ex → St → Prop) (n : Nat) :
    ∀ (k : Nat) (l : List Int) (ver : Nat) (e : Nat → AV) (o : Obs), n = c - k → k ≤ c → e 4 = .own 80 va → o 80 = (va, .row false nn 2 1 all.length (ints all)) → e 5 = .t (.int .i64 i) → e 6 = .t (.int .i64 k) → e 3 = .own 56 ver → o 56 = (ver, .row false true 2 1 l.length (ints l)) → l.length + n ≤ 100000 → c ≤ 100000 →
    (∀ e' o' ver', (∀ t, t < 14 → t ≠ 3 → t ≠ 6 → e' t = e t) → o' 80 = o 80 → e' 3 = .own 56 ver' → o' 56 = (ver', .row false true 2 1 (l ++ List.replicate n 1).length (ints (l ++ List.replicate n 1))) → Φ (.exit 2) ⟨e', o'⟩) →
    To (loop Tryd.prog (loopAt Tryd.f40 1) ⟨e, o⟩) Φ := by
  generalize hc : loopAt Tryd.f40 1 = cd
  induction n with
  | zero =>
    intro k l ver e o hn hk h4 ho4 h5 h6 h3 ho3 hl hc' hT
    have hk' : k = c := by omega
    subst hk'
    refine loop_go hc ?_
    simp [Tryd.f40, h4, h5, h6, ho4, hi, Nat.le_of_lt hi, ints, hcv]
    exact hT _ _ ver (by intro t h1 h2 h3; repeat (first | rfl | refine fr_upd ?_ (by omega))) rfl (by simp [upd, h3]) (by simpa using ho3)
  | succ n ih =>
    intro k l ver e o hn hk h4 ho4 h5 h6 h3 ho3 hl hc' hT
    have hk' : k < c := by omega
    have hw := wrap_succ hk' (show c ≤ 9223372036854775807 by omega)
    have hadd : ints (l ++ [1]) = ints l ++ [.int .i64 1] := by simp [ints]
    have hb : l.length + 1 ≤ 140737488355328 := by omega
    have hb8 : (l.length + 1) * 8 ≤ 140737488355328 := by omega
    have hrep : (l ++ [1]) ++ List.replicate n 1 = l ++ List.replicate (n + 1) 1 := by rw [List.replicate_succ]; simp
    refine loop_go hc ?_
    simp [Tryd.f40, h3, ho3, h4, h5, h6, ho4, hi, Nat.le_of_lt hi, ints, hcv, hk', hw, hb, hb8]
    refine ih (k + 1) (l ++ [1]) (ver + 1) _ _ (by omega) (by omega) (by simp [upd, h4]) (by simp [upd, ho4, ints]) (by simp [upd, h5]) (by simp [upd]) (by simp [upd]) (by simp [upd, ints]) (by simp; omega) hc' (fun e' o' ver' f1 g1 h3' ho3' => ?_)
    rw [hrep] at ho3'
    exact hT e' o' ver' (fun t a b c => (f1 t a b c).trans (by repeat (first | rfl | refine fr_upd ?_ (by omega)))) (g1.trans (by simp [upd])) h3' ho3'

theorem lsBits (all : List Int) (hall : all.length ≤ 50 ∧ ∀ x ∈ all, 0 ≤ x ∧ x ≤ 15) (va : Nat) (nn : Bool) (Φ : Ex → St → Prop)
    (hT : ∀ e o ver, e 3 = .own 56 ver → o 56 = (ver, .row false true 2 1 (bitsL all).length (ints (bitsL all))) → Φ (.exit 0) ⟨e, o⟩) (n : Nat) :
    ∀ (k : Nat) (ver : Nat) (e : Nat → AV) (o : Obs), n = all.length - k → k ≤ all.length → e 4 = .own 80 va → o 80 = (va, .row false nn 2 1 all.length (ints all)) → e 5 = .t (.int .i64 k) → e 3 = .own 56 ver → o 56 = (ver, .row false true 2 1 (bitsL (all.take k)).length (ints (bitsL (all.take k)))) →
    To (loop Tryd.prog (loopAt Tryd.f40 0) ⟨e, o⟩) Φ := by
  generalize hc : loopAt Tryd.f40 0 = cd
  induction n with
  | zero =>
    intro k ver e o hn hk h4 ho4 h5 h3 ho3
    have hk' : k = all.length := by omega
    subst hk'
    rw [List.take_length] at ho3
    refine loop_go hc ?_
    simp [Tryd.f40, h4, h5, ho4, ints_length]
    exact hT _ _ ver (by simp [upd, h3]) ho3
  | succ n ih =>
    intro k ver e o hn hk h4 ho4 h5 h3 ho3
    have hk' : k < all.length := by omega
    have hw := wrap_succ hk' (show all.length ≤ 9223372036854775807 by have := hall.1; omega)
    have hxk := hall.2 all[k] (List.getElem_mem hk')
    obtain ⟨c, hcv⟩ : ∃ c : Nat, all[k] = (c : Int) := ⟨all[k].toNat, by omega⟩
    have hlen : (bitsL (all.take k)).length ≤ 800 := by
      have h1 := bitsL_len (l := all.take k) (fun y hy => hall.2 y (List.mem_of_mem_take hy))
      have h2 := hall.1
      simp only [List.length_take] at h1; omega
    have hfull : bitsL (all.take (k + 1)) = (bitsL (all.take k) ++ List.replicate c 1) ++ [0] := by
      rw [bitsL_take hk', hcv]; simp
    refine loop_go hc ?_
    simp [Tryd.f40, h4, h5, ho4, hk', ints_length]
    refine goL_of (lsOnes all k hk' c hcv va nn _ c 0 (bitsL (all.take k)) ver _ _ (by omega) (by omega) (by simp [upd, h4]) ho4 (by simp [upd, h5]) (by simp [upd]) (by simp [upd, h3]) ho3 (by omega) (by omega) (fun e1 o1 ver1 f1 g1 h3' ho3' => ?_)) (fun _ _ h => h)
    have h4' : e1 4 = .own 80 va := (f1 4 (by omega) (by omega) (by omega)).trans (by simp [upd, h4])
    have h5' : e1 5 = .t (.int .i64 k) := (f1 5 (by omega) (by omega) (by omega)).trans (by simp [upd, h5])
    generalize hl : bitsL (all.take k) ++ List.replicate c 1 = l at ho3' hfull
    have hll : l.length ≤ 900 := by rw [← hl, List.length_append, List.length_replicate]; omega
    have hadd : ints (l ++ [0]) = ints l ++ [.int .i64 0] := by simp [ints]
    have hb : l.length + 1 ≤ 140737488355328 := by omega
    have hb8 : (l.length + 1) * 8 ≤ 140737488355328 := by omega
    simp [Tryd.f40, h3', ho3', h5', ints_length, hw, hb, hb8]
    exact ih (k + 1) (ver1 + 1) _ _ (by omega) (by omega) (by simp [upd, h4']) (by simp [upd, g1, ho4, ints]) (by simp [upd]) (by simp [upd]) (by simp [upd, hfull, hadd, ints_length])

theorem rsBits (x y : List Int) (hx : smallL x) (hy : smallL y) : run Tryd.prog 40 [bA x y] = some (.own 0 0, [.row false true 2 1 (bitsL (x ++ y)).length (ints (bitsL (x ++ y)))]) := by
  have hx1 := hx.1
  have hy1 := hy.1
  have hown := rs02Own x (by omega)
  have hb : x.length + y.length ≤ 140737488355328 := by omega
  have hb8 : (x.length + y.length) * 8 ≤ 140737488355328 := by omega
  simp only [slT] at hown
  refine run_go Tryd.func40 ok40 (by simp [Tryd.ntmps40]) rfl ?_
  simp [Tryd.f40, bA, slT, hown, ints_length, hb, hb8]
  refine goL_of (lsBits (x ++ y) ⟨by simp; omega, ?_⟩ 2 true _ (fun e o ver h3 ho => ?_) _ 0 1 _ _ rfl (by omega) (by simp [upd]) (by simp [upd, ints]) (by simp [upd]) (by simp [upd]) (by simp [upd, bitsL, ints])) (fun _ _ h => h)
  · intro z hz
    rcases List.mem_append.1 hz with h | h
    · exact hx.2 z h
    · exact hy.2 z h
  · simp [h3, ho, ints_length]
end Go.AX
