/- THE LAW's OWN FUNCTIONS for lists of boards and desks; THE LAW. Printed by program from a template. -/
import Derived.Test.YtkinlkcdjecgmaaDoorDeskR
namespace Go.AX
open Go Go.Proofs
attribute [local simp] goX_nil goX_code goX_code_exit goX_code_ret goX_blk goX_blk_ret goX_blk_exit goR_some goB_true goB_false goC_seq goC_block goC_skip goC_exit goC_ret goC_loop goC_region goC_draw goC_cond finF_ret finF_normal finK_some lpΨ_normal lpΨ_exit lpΨ_ret runE_cons runE_nil runK_some runD_cons runD_nil runDK_some runDQ_true stepE_eq stepK_true stepK_false guardE_eq guardG_none guardG_some guardJ_some guardK_bool guardK_non effV_some cellsAt_ptr cellsAt_cp cellsK_box cellsK_row loadE_eq loadK_some loadC_struct loadC_int loadC_bool loadC_str loadC_slice loadC_ptr loadC_map fieldAddrE_eq fieldQ_some fieldK_ptr fieldK_cp map_eff tK_some binE_int binE_str eqK_some binE_eql_agg binE_neq_agg binE_eql_bool binE_neq_bool binE_eql_own binE_neq_own binE_eql_nil binE_neq_nil binE_eql_sl binE_neq_sl andK_some fsK_some eqFs_nil eqFs_cons eqCell_int eqCell_bool eqCell_str callE_eq callQ_some callK_some snapsA_cons snapsA_nil snapsAK_some aggK_some snapA_agg snapA_t snapA_fn snapA_own snaps_cons snaps_nil snapsK_some snap_t snap_own snapK_row ressE_cons ressE_nil ressK_some resE_tmp vK_some resE_cell codeOf opE St.app putS putO upd moveE pickE boxE allocE buildE buildSliceE storeE cellsOf fieldE indexAddrE indexE lenE appendE srcE makeSliceE minE maxE extractE sliceE boundE strE eqE nilQ intArithE unE convE bytesT strOf flatA flatB flat1 flatT flatOb newObs renA renB renT renOb ev ofVal enterS boxCell newOb nid joinE finishE outA outB outT outOb outOb' outIds addIds baseIds refs2 refsA refs1 boxRefs hO okE_nil okE_cons okQ_true okQ_false disE_nil disE_left disE_right apE_nil apE_cons rd_contains rd_mem idsW_nil idsW_cons tiedE evParts lay placeOf frz fz1 zeros Op.operands Call.operands Region.binds intBeq intBne List.idxOf?_cons loopAt loopsOf ti2 ti3 ti4 ti5 ti9 ti21 ti22 ti23 ti24 ti25 ti26 ti27 ti28 ti29 ti30 ti31 ti34 ti35 ti36 ti37 ti38 ti39 ti55 ti68 ti85 ti86 ti89 ti100 ti103
set_option maxRecDepth 100000
set_option maxHeartbeats 4000000

abbrev AB := (T × List Int) × (T × List Int)
def abC (L : List AB) : List T := L.flatMap fun q => [q.1.1, q.2.1]
def abB (L : List AB) : List Bd := L.map fun q => (q.1.2, q.2.2)
def okAB (q : AB) : Prop := IsL q.1.1 q.1.2 ∧ IsL q.2.1 q.2.2 ∧ q.1.2.length ≤ 9223372036854775807 ∧ q.2.2.length ≤ 9223372036854775807
/-- A slice argument of boards. -/
def IsP (x : T) (L : List AB) : Prop := (L = [] ∧ (x = .nil ∨ x = .em)) ∨ (L ≠ [] ∧ x = .sl L.length (abC L))
theorem abC_length : ∀ (l : List AB), (abC l).length = l.length * 2
  | [] => rfl
  | b :: l => by
    have := abC_length l
    unfold abC at this ⊢
    simp only [List.flatMap_cons, List.length_append, List.length_cons, List.length_nil, this]; omega
theorem abC_drop : ∀ {l : List AB} {k : Nat} (hk : k < l.length), (abC l).drop (k * 2) = l[k].1.1 :: l[k].2.1 :: abC (l.drop (k + 1))
  | b :: l, 0, _ => by simp [abC]
  | b :: l, k + 1, hk => by
    have ih := abC_drop (l := l) (k := k) (by simpa using hk)
    unfold abC at ih ⊢
    simp only [List.flatMap_cons, List.getElem_cons_succ, List.drop_succ_cons]
    rw [show (k + 1) * 2 = 2 + k * 2 from by omega, ← List.drop_drop]
    exact ih

def szB (left : Int) (x y : Nat) : Int := if left - x < 0 then -1 else if left - x - y < 0 then -1 else left - x - y
def szP : Int → List AB → Int
  | r, [] => r
  | r, q :: L => if szB r q.1.2.length q.2.2.length < 0 then -1 else szP (szB r q.1.2.length q.2.2.length) L
theorem rlSzB' {x y : T} {l m : List Int} (hx : IsL x l) (hy : IsL y m) (hl : l.length ≤ 9223372036854775807) (hm : m.length ≤ 9223372036854775807) (left : Int) (h0 : 0 ≤ left ∧ left ≤ 1048576) :
    run Tryd.prog 9 [.agg [.t x, .t y], .t (.int .i64 left)] = some (.t (.int .i64 (szB left l.length m.length)), []) := by
  obtain ⟨r1, h1, hr1⟩ := rlSzL hx hl left h0
  unfold szB
  rcases hr1 with rfl | ⟨hr1, hr2⟩
  · by_cases hc : left - (l.length : Int) < 0
    · rw [if_pos hc]
      refine run_go Tryd.func9 ok9 (by simp [Tryd.ntmps9]) rfl ?_
      simp [Tryd.f9, h1]
    · exfalso
      have hw : IntKind.i64.wrap (left - (l.length : Int)) = left - (l.length : Int) := wrap64 (by omega)
      have hw0 : IntKind.i64.wrap left = left := wrap64 (by omega)
      have h0' : ¬ left < 0 := by omega
      have : run Tryd.prog 31 [.t x, .t (.int .i64 left)] = some (.t (.int .i64 (left - l.length)), []) := by
        refine run_go Tryd.func31 ok31 (by simp [Tryd.ntmps31]) rfl ?_
        rcases hx with ⟨rfl, rfl | rfl⟩ | ⟨hne, rfl⟩
        · simp [Tryd.f31, hw0, h0']
        · simp [Tryd.f31, hw0, h0']
        · simp [Tryd.f31, slT, hw, hc]
      rw [h1] at this
      simp at this; omega
  · rw [if_neg (by omega)]
    obtain ⟨r2, h2, hr3⟩ := rlSzL hy hm r1 (by omega)
    have n1 : ¬ r1 < 0 := by omega
    have hw : IntKind.i64.wrap (r1 - (m.length : Int)) = r1 - (m.length : Int) := wrap64 (by omega)
    have hw0 : IntKind.i64.wrap r1 = r1 := wrap64 (by omega)
    have h3 : run Tryd.prog 31 [.t y, .t (.int .i64 r1)] = some (.t (.int .i64 (if r1 - (m.length : Int) < 0 then -1 else r1 - m.length)), []) := by
      refine run_go Tryd.func31 ok31 (by simp [Tryd.ntmps31]) rfl ?_
      rcases hy with ⟨rfl, rfl | rfl⟩ | ⟨hne, rfl⟩
      · simp [Tryd.f31, hw0, n1]
      · simp [Tryd.f31, hw0, n1]
      · by_cases hc : r1 - (m.length : Int) < 0
        · simp [Tryd.f31, slT, hw, hc]
        · simp [Tryd.f31, slT, hw, hc]
    subst hr1
    by_cases hc : left - (l.length : Int) - (m.length : Int) < 0
    · rw [if_pos hc] at h3 ⊢
      refine run_go Tryd.func9 ok9 (by simp [Tryd.ntmps9]) rfl ?_
      simp [Tryd.f9, h1, h3, n1]
    · rw [if_neg hc] at h3 ⊢
      refine run_go Tryd.func9 ok9 (by simp [Tryd.ntmps9]) rfl ?_
      simp [Tryd.f9, h1, h3, n1, hc]

theorem llSzP (L : List AB) (hL : ∀ q ∈ L, okAB q) (hl : L.length ≤ 1048576) (Φ : Ex → St → Prop) (r0 : Int)
    (hT : ∀ e o, e 1 = .t (.int .i64 r0) → Φ (.exit 0) ⟨e, o⟩) (hF : ∀ e o, r0 = -1 → e 4 = .t (.int .i64 (-1)) → Φ .ret ⟨e, o⟩) (n : Nat) :
    ∀ (k : Nat) (r : Int) (e : Nat → AV) (o : Obs), n = L.length - k → k ≤ L.length → 0 ≤ r → r ≤ 1048576 → r0 = szP r (L.drop k) → e 0 = .t (.sl L.length (abC L)) → e 1 = .t (.int .i64 r) → e 5 = .t (.int .i64 k) →
    To (loop Tryd.prog (loopAt Tryd.f10 0) ⟨e, o⟩) Φ := by
  generalize hc : loopAt Tryd.f10 0 = cd
  induction n with
  | zero =>
    intro k r e o hn hk hr hr2 hb h0 h1 h5
    have hk' : k = L.length := by omega
    subst hk'
    rw [List.drop_length, szP] at hb
    refine loop_go hc ?_
    simp [Tryd.f10, h0, h5]
    exact hT _ _ (by simp [upd, h1, hb])
  | succ n ih =>
    intro k r e o hn hk hr hr2 hb h0 h1 h5
    have hk' : k < L.length := by omega
    have hw := wrap_succ hk' (show L.length ≤ 9223372036854775807 by omega)
    have hlen := abC_length L
    have hd := abC_drop hk'
    have h2l : k * 2 ≤ L.length * 2 := by omega
    obtain ⟨o1, o2, o3, o4⟩ := hL L[k] (List.getElem_mem hk')
    have hs := rlSzB' o1 o2 o3 o4 r (by omega)
    rw [List.drop_eq_getElem_cons hk', szP] at hb
    have hsr : szB r L[k].1.2.length L[k].2.2.length ≤ r := by unfold szB; split <;> (try split) <;> omega
    generalize szB r L[k].1.2.length L[k].2.2.length = r2 at hs hb hsr
    refine loop_go hc ?_
    by_cases h : r2 < 0
    · rw [if_pos h] at hb
      simp [Tryd.f10, h0, h1, h5, hk', hk, h2l, hlen, hd, hs, hw, h]
      exact hF _ _ hb (by simp [upd])
    · rw [if_neg h] at hb
      simp [Tryd.f10, h0, h1, h5, hk', hk, h2l, hlen, hd, hs, hw, h]
      exact ih (k + 1) r2 _ _ (by omega) (by omega) (by omega) (by omega) hb (by simp [upd, h0]) (by simp [upd]) (by simp [upd])

theorem rlSzP {x : T} {L : List AB} (hx : IsP x L) (hL : ∀ q ∈ L, okAB q) (hl : L.length ≤ 9223372036854775807) (left : Int) (h0 : 0 ≤ left ∧ left ≤ 1048576) :
    run Tryd.prog 10 [.t x, .t (.int .i64 left)] = some (.t (.int .i64 (if left - (L.length : Int) < 0 then -1 else szP (left - L.length) L)), []) := by
  have hw : IntKind.i64.wrap (left - (L.length : Int)) = left - (L.length : Int) := wrap64 (by omega)
  have hw0 : IntKind.i64.wrap left = left := wrap64 (by omega)
  have h0' : ¬ left < 0 := by omega
  refine run_go Tryd.func10 ok10 (by simp [Tryd.ntmps10]) rfl ?_
  rcases hx with ⟨rfl, rfl | rfl⟩ | ⟨hne, rfl⟩
  · simp [Tryd.f10, hw0, h0']
    refine loop_go rfl ?_
    simp [Tryd.f10, szP]
  · simp [Tryd.f10, hw0, h0']
    refine loop_go rfl ?_
    simp [Tryd.f10, szP]
  · by_cases h : left - (L.length : Int) < 0
    · simp [Tryd.f10, hw, h]
    · simp [Tryd.f10, hw, h]
      refine goL_of (llSzP L hL (by omega) _ (szP (left - L.length) L) (fun e o h1 => ?_) (fun e o hm h4 => ?_) _ 0 (left - L.length) _ _ rfl (by omega) (by omega) (by omega) (by simp) (by simp [upd]) (by simp [upd]) (by simp [upd])) (fun _ _ h => h)
      · simp [Tryd.f10, h1]
      · simp [Tryd.f10, h4, hm]
theorem szP_small : ∀ {L : List AB} {r : Int}, ¬ szP r L < 0 → 0 ≤ r → (∀ q ∈ L, (q.1.2.length : Int) ≤ r ∧ (q.2.2.length : Int) ≤ r) ∧ szP r L ≤ r
  | [], r, _, _ => by simp [szP]
  | q :: L, r, h, h0 => by
    simp only [szP] at h ⊢
    by_cases hc : szB r q.1.2.length q.2.2.length < 0
    · rw [if_pos hc] at h; omega
    · rw [if_neg hc] at h ⊢
      have hr : (q.1.2.length : Int) ≤ r ∧ (q.2.2.length : Int) ≤ r ∧ szB r q.1.2.length q.2.2.length ≤ r := by
        unfold szB at hc ⊢
        split at hc
        · omega
        · split at hc
          · omega
          · rename_i h1 h2
            rw [if_neg h1, if_neg h2]; omega
      have ih := szP_small h (by omega)
      refine ⟨fun z hz => ?_, by omega⟩
      rcases List.mem_cons.1 hz with rfl | hz
      · exact ⟨hr.1, hr.2.1⟩
      · have := ih.1 z hz; omega

/-- A desk argument. -/
def dArg (p c h s : Int) (X Y : T) (a b seed : Int) (Z : T) : AV :=
  .agg [.t (.int .i64 p), .t (.int .i64 c), .t (.int .i64 h), .t (.int .i64 s), .t X, .t Y, .t (.int .i64 a), .t (.int .i64 b), .t (.int .i64 seed), .t Z]
theorem rlSzDesk (p c h s : Int) {X Y Z : T} {x y : List Int} {L : List AB} (a b seed : Int) (hx : IsL X x) (hy : IsL Y y) (hz : IsP Z L) (hL : ∀ q ∈ L, okAB q) (hxl : x.length ≤ 9223372036854775807) (hyl : y.length ≤ 9223372036854775807) (hl : L.length ≤ 9223372036854775807) :
    ∃ r, run Tryd.prog 4 [dArg p c h s X Y a b seed Z, .t (.int .i64 1048576)] = some (.t (.int .i64 r), []) ∧ (r < 0 ∨ (0 ≤ r ∧ x.length ≤ 1048576 ∧ y.length ≤ 1048576 ∧ L.length ≤ 1048576 ∧ ∀ q ∈ L, q.1.2.length ≤ 1048576 ∧ q.2.2.length ≤ 1048576)) := by
  have h1 := rlSzB' hx hy hxl hyl 1048576 (by omega)
  have hb : szB 1048576 x.length y.length < 0 ∨ (0 ≤ szB 1048576 x.length y.length ∧ szB 1048576 x.length y.length ≤ 1048576 ∧ x.length ≤ 1048576 ∧ y.length ≤ 1048576) := by
    unfold szB
    split
    · omega
    · split <;> omega
  generalize szB 1048576 x.length y.length = r1 at h1 hb
  rcases hb with hb | ⟨hb, hb2, hb3, hb4⟩
  · refine ⟨-1, ?_, .inl (by omega)⟩
    refine run_go Tryd.func4 ok4 (by simp [Tryd.ntmps4]) rfl ?_
    simp [Tryd.f4, dArg, h1, hb]
  · have n1 : ¬ r1 < 0 := by omega
    have h2 := rlSzP hz hL hl r1 ⟨hb, hb2⟩
    by_cases hn : r1 - (L.length : Int) < 0
    · rw [if_pos hn] at h2
      refine ⟨-1, ?_, .inl (by omega)⟩
      refine run_go Tryd.func4 ok4 (by simp [Tryd.ntmps4]) rfl ?_
      simp [Tryd.f4, dArg, h1, h2, n1]
    · rw [if_neg hn] at h2
      by_cases hr : szP (r1 - L.length) L < 0
      · refine ⟨-1, ?_, .inl (by omega)⟩
        refine run_go Tryd.func4 ok4 (by simp [Tryd.ntmps4]) rfl ?_
        simp [Tryd.f4, dArg, h1, h2, n1, hr]
      · have hsm := szP_small hr (by omega)
        refine ⟨szP (r1 - L.length) L, ?_, .inr ⟨by omega, hb3, hb4, by omega, fun q hq => by have := hsm.1 q hq; omega⟩⟩
        refine run_go Tryd.func4 ok4 (by simp [Tryd.ntmps4]) rfl ?_
        simp [Tryd.f4, dArg, h1, h2, n1, hr]
end Go.AX
