/- IDENTIFIERS OF BOARDS (both). Printed by program from a template. -/
import Derived.Test.YtkinlkcdjecgmaaDoorDeskN
namespace Go.AX
open Go Go.Proofs
attribute [local simp] goX_nil goX_code goX_code_exit goX_code_ret goX_blk goX_blk_ret goX_blk_exit goR_some goB_true goB_false goC_seq goC_block goC_skip goC_exit goC_ret goC_loop goC_region goC_draw goC_cond finF_ret finF_normal finK_some lpΨ_normal lpΨ_exit lpΨ_ret runE_cons runE_nil runK_some runD_cons runD_nil runDK_some runDQ_true stepE_eq stepK_true stepK_false guardE_eq guardG_none guardG_some guardJ_some guardK_bool guardK_non effV_some cellsAt_ptr cellsAt_cp cellsK_box cellsK_row loadE_eq loadK_some loadC_struct loadC_int loadC_bool loadC_str loadC_slice loadC_ptr loadC_map fieldAddrE_eq fieldQ_some fieldK_ptr fieldK_cp map_eff tK_some binE_int binE_str eqK_some binE_eql_agg binE_neq_agg binE_eql_bool binE_neq_bool binE_eql_own binE_neq_own binE_eql_nil binE_neq_nil binE_eql_sl binE_neq_sl andK_some fsK_some eqFs_nil eqFs_cons eqCell_int eqCell_bool eqCell_str callE_eq callQ_some callK_some snapsA_cons snapsA_nil snapsAK_some aggK_some snapA_agg snapA_t snapA_fn snapA_own snaps_cons snaps_nil snapsK_some snap_t snap_own snapK_row ressE_cons ressE_nil ressK_some resE_tmp vK_some resE_cell codeOf opE St.app putS putO upd moveE pickE boxE allocE buildE buildSliceE storeE cellsOf fieldE indexAddrE indexE lenE appendE srcE makeSliceE minE maxE extractE sliceE boundE strE eqE nilQ intArithE unE convE bytesT strOf flatA flatB flat1 flatT flatOb newObs renA renB renT renOb ev ofVal enterS boxCell newOb nid joinE finishE outA outB outT outOb outOb' outIds addIds baseIds refs2 refsA refs1 boxRefs hO okE_nil okE_cons okQ_true okQ_false disE_nil disE_left disE_right apE_nil apE_cons rd_contains rd_mem idsW_nil idsW_cons tiedE evParts lay placeOf frz fz1 zeros Op.operands Call.operands Region.binds intBeq intBne List.idxOf?_cons loopAt loopsOf ti2 ti3 ti4 ti5 ti9 ti21 ti22 ti23 ti24 ti25 ti26 ti27 ti28 ti29 ti30 ti31 ti34 ti35 ti36 ti37 ti38 ti39 ti55 ti68 ti85 ti86 ti89 ti100 ti103
set_option maxRecDepth 100000
set_option maxHeartbeats 4000000

def abc : List UInt8 := [65, 66, 67, 68, 69, 70, 71, 72, 73, 74, 75, 76, 77, 78, 79, 80, 81, 82, 83, 84, 85, 86, 87, 88, 89, 90, 97, 98, 99, 100, 101, 102, 103, 104, 105, 106, 107, 108, 109, 110, 111, 112, 113, 114, 115, 116, 117, 118, 119, 120, 121, 122, 48, 49, 50, 51, 52, 53, 54, 55, 56, 57, 43, 45]
def abcB : ByteArray := ⟨abc.toArray⟩
theorem abcB_size : abcB.size = 64 := rfl
theorem abcB_lit : (⟨#[65, 66, 67, 68, 69, 70, 71, 72, 73, 74, 75, 76, 77, 78, 79, 80, 81, 82, 83, 84, 85, 86, 87, 88, 89, 90, 97, 98, 99, 100, 101, 102, 103, 104, 105, 106, 107, 108, 109, 110, 111, 112, 113, 114, 115, 116, 117, 118, 119, 120, 121, 122, 48, 49, 50, 51, 52, 53, 54, 55, 56, 57, 43, 45]⟩ : ByteArray) = abcB := rfl
theorem abcB_extract {n : Nat} (h : n < 64) : abcB.extract n (n + 1) = ⟨#[abc.getD n 0]⟩ := by
  have : ∀ n : Fin 64, abcB.extract n.1 (n.1 + 1) = ⟨#[abc.getD n.1 0]⟩ := by decide
  exact this ⟨n, h⟩

def bits01 (l : List Int) : Prop := ∀ x ∈ l, x = 0 ∨ x = 1
theorem bitsL_01 (l : List Int) : bits01 (bitsL l) := by
  intro x hx
  simp only [bitsL, List.mem_flatMap, List.mem_append, List.mem_replicate, List.mem_singleton] at hx
  obtain ⟨_, _, ⟨_, h⟩ | h⟩ := hx
  · exact .inr h
  · exact .inl h
def bitN (l : List Int) (k : Nat) : Nat := (l.getD k 0).toNat
def cv (l : List Int) (i : Nat) : Nat → Nat
  | 0 => 0
  | k + 1 => 2 * cv l i k + bitN l (i + k)
theorem bitN_le {l : List Int} (h : bits01 l) (k : Nat) : bitN l k ≤ 1 := by
  unfold bitN
  rcases Nat.lt_or_ge k l.length with hk | hk
  · rw [List.getD_eq_getElem?_getD, List.getElem?_eq_getElem hk]
    rcases h _ (List.getElem_mem hk) with e | e <;> simp [e]
  · rw [List.getD_eq_getElem?_getD, List.getElem?_eq_none hk]; simp
theorem cv_lt {l : List Int} (h : bits01 l) (i : Nat) : ∀ k, cv l i k < 2 ^ k
  | 0 => by simp [cv]
  | k + 1 => by
    have h1 := cv_lt h i k
    have h2 := bitN_le h (i + k)
    simp only [cv, Nat.pow_succ]; omega
def idT (l : List Int) (m : Nat) : ByteArray := ⟨((List.range m).map fun j => abc.getD (cv l (6 * j) 6) 0).toArray⟩
theorem idT_succ (l : List Int) (m : Nat) : idT l (m + 1) = idT l m ++ ⟨#[abc.getD (cv l (6 * m) 6) 0]⟩ := by
  apply ByteArray.ext
  simp [idT, List.range_succ, ByteArray.data_append]
theorem idT_size (l : List Int) (m : Nat) : (idT l m).size = m := by simp [idT, ByteArray.size]

theorem rsLetters : run Tryd.prog 56 [] = some (.t (.str abcB), []) := by
  refine run_go Tryd.func56 ok56 (by simp [Tryd.ntmps56]) rfl ?_
  simp [Tryd.f56, abcB_lit]

theorem lsChunk (l : List Int) (hl : l.length ≤ 1000000) (h01 : bits01 l) (i : Nat) (hi : i ≤ 1000000) (Φ : Ex → St → Prop) (n : Nat) :
    ∀ (k : Nat) (e : Nat → AV) (o : Obs), n = 6 - k → k ≤ 6 → e 0 = .t (slT l) → e 4 = .t (.int .i64 i) → e 5 = .t (.int .i64 (cv l i k)) → e 6 = .t (.int .i64 ((i + k : Nat) : Int)) →
    (∀ e', (∀ t, t < 5 → e' t = e t) → e' 5 = .t (.int .i64 (cv l i 6)) → Φ (.exit 2) ⟨e', o⟩) →
    To (loop Tryd.prog (loopAt Tryd.f39 1) ⟨e, o⟩) Φ := by
  generalize hc : loopAt Tryd.f39 1 = cd
  induction n with
  | zero =>
    intro k e o hn hk h0 h4 h5 h6 hT
    have hk' : k = 6 := by omega
    subst hk'
    have hw6 : IntKind.i64.wrap ((i : Int) + 6) = (i : Int) + 6 := wrap64 (by omega)
    refine loop_go hc ?_
    simp [Tryd.f39, h4, h6, hw6]
    exact hT _ (by intro t h1; repeat (first | rfl | refine fr_upd ?_ (by omega))) (by simp [upd, h5])
  | succ n ih =>
    intro k e o hn hk h0 h4 h5 h6 hT
    have hk' : k < 6 := by omega
    have hk2 : (k : Int) < 6 := by omega
    have hw6 : IntKind.i64.wrap ((i : Int) + 6) = (i : Int) + 6 := wrap64 (by omega)
    have hcl := cv_lt h01 i k
    have hp : 2 ^ k ≤ 32 := by
      have : ∀ k : Fin 6, 2 ^ k.1 ≤ 32 := by decide
      exact this ⟨k, hk'⟩
    have hw2 : IntKind.i64.wrap (2 * (cv l i k : Int)) = 2 * (cv l i k : Int) := wrap64 (by omega)
    have hw3 : IntKind.i64.wrap (2 * (cv l i k : Int) + 1) = 2 * (cv l i k : Int) + 1 := wrap64 (by omega)
    have hw4 : IntKind.i64.wrap ((i : Int) + (k : Int) + 1) = (i : Int) + (k : Int) + 1 := wrap64 (by omega)
    refine loop_go hc ?_
    by_cases hlt : i + k < l.length
    · have hlt2 : (i : Int) + (k : Int) < (l.length : Int) := by omega
      have hnn : (0 : Int) ≤ (i : Int) + (k : Int) := by omega
      have htn : ((i : Int) + (k : Int)).toNat = i + k := by omega
      have hg : (ints l)[i + k]? = some (.int .i64 l[i + k]) := by simp [ints, hlt]
      have hb : bitN l (i + k) = l[i + k].toNat := by simp [bitN, List.getD_eq_getElem?_getD, List.getElem?_eq_getElem hlt]
      rcases h01 _ (List.getElem_mem hlt) with hbit | hbit
      · simp [Tryd.f39, h0, h4, h5, h6, hw6, hw2, hw4, hk', hk2, slT, hlt2, hlt, hnn, htn, ints, hbit, Nat.le_of_lt hlt]
        refine ih (k + 1) _ _ (by omega) (by omega) (by simp [upd, h0, slT, ints]) (by simp [upd, h4]) ?_ (by simp [upd]; omega) (fun e' f1 h5' => hT e' (fun t a => (f1 t a).trans (by repeat (first | rfl | refine fr_upd ?_ (by omega)))) h5')
        simp [upd, cv, hb, hbit]
      · simp [Tryd.f39, h0, h4, h5, h6, hw6, hw2, hw3, hw4, hk', hk2, slT, hlt2, hlt, hnn, htn, ints, hbit, Nat.le_of_lt hlt]
        refine ih (k + 1) _ _ (by omega) (by omega) (by simp [upd, h0, slT, ints]) (by simp [upd, h4]) ?_ (by simp [upd]; omega) (fun e' f1 h5' => hT e' (fun t a => (f1 t a).trans (by repeat (first | rfl | refine fr_upd ?_ (by omega)))) h5')
        simp [upd, cv, hb, hbit]
    · have hlt2 : ¬ (i : Int) + (k : Int) < (l.length : Int) := by omega
      have hb : bitN l (i + k) = 0 := by simp [bitN, List.getD_eq_getElem?_getD, List.getElem?_eq_none (Nat.le_of_not_lt hlt)]
      simp [Tryd.f39, h0, h4, h5, h6, hw6, hw2, hw4, hk', hk2, slT, hlt2, hlt]
      refine ih (k + 1) _ _ (by omega) (by omega) (by simp [upd, h0, slT]) (by simp [upd, h4]) ?_ (by simp [upd]; omega) (fun e' f1 h5' => hT e' (fun t a => (f1 t a).trans (by repeat (first | rfl | refine fr_upd ?_ (by omega)))) h5')
      simp [upd, cv, hb]

theorem lsId (l : List Int) (hl : l.length ≤ 1000) (h01 : bits01 l) (Φ : Ex → St → Prop)
    (hT : ∀ e o, e 3 = .t (.str (idT l ((l.length + 5) / 6))) → Φ (.exit 0) ⟨e, o⟩) (n : Nat) :
    ∀ (m : Nat) (e : Nat → AV) (o : Obs), n = (l.length + 5) / 6 - m → m ≤ (l.length + 5) / 6 → e 0 = .t (slT l) → e 3 = .t (.str (idT l m)) → e 4 = .t (.int .i64 ((6 * m : Nat) : Int)) →
    To (loop Tryd.prog (loopAt Tryd.f39 0) ⟨e, o⟩) Φ := by
  generalize hc : loopAt Tryd.f39 0 = cd
  induction n with
  | zero =>
    intro m e o hn hm h0 h3 h4
    have hm' : m = (l.length + 5) / 6 := by omega
    have hlt : ¬ (6 * (m : Int)) < (l.length : Int) := by omega
    refine loop_go hc ?_
    simp [Tryd.f39, h0, h4, slT, hlt]
    exact hT _ _ (by simp [upd, h3, hm'])
  | succ n ih =>
    intro m e o hn hm h0 h3 h4
    have hlt : (6 * (m : Int)) < (l.length : Int) := by omega
    have hcl := cv_lt h01 (6 * m) 6
    simp at hcl
    have hw : IntKind.i64.wrap (6 * (m : Int) + 6) = 6 * (m : Int) + 6 := wrap64 (by omega)
    have hsz := idT_size l m
    generalize hcc : cv l (6 * m) 6 = c at hcl
    have hw1 : IntKind.i64.wrap ((c : Int) + 1) = (c : Int) + 1 := wrap64 (by omega)
    have hc0 : (0 : Int) ≤ (c : Int) + 1 := by omega
    have hc1 : (c : Int) ≤ (c : Int) + 1 := by omega
    have hc2 : (c : Int) + 1 ≤ 64 := by omega
    have hc3 : ((c : Int) + 1).toNat = c + 1 := by omega
    have hex := abcB_extract hcl
    have hz : (idT l m).size + (⟨#[abc.getD c 0]⟩ : ByteArray).size ≤ 9223372036854775807 := by
      rw [hsz]; simp [ByteArray.size]; omega
    have hsu := idT_succ l m
    rw [hcc] at hsu
    refine loop_go hc ?_
    simp [Tryd.f39, h0, h4, slT, hlt]
    refine goL_of (lsChunk l (by omega) h01 (6 * m) (by omega) _ 6 0 _ _ (by omega) (by omega) (by simp [upd, h0, slT]) (by simp [upd, h4]) (by simp [upd, cv]) (by simp [upd]) (fun e1 f1 h5 => ?_)) (fun _ _ h => h)
    rw [hcc] at h5
    have h0' : e1 0 = .t (slT l) := (f1 0 (by omega)).trans (by simp [upd, h0])
    have h3' : e1 3 = .t (.str (idT l m)) := (f1 3 (by omega)).trans (by simp [upd, h3])
    have h4' : e1 4 = .t (.int .i64 ((6 * m : Nat) : Int)) := (f1 4 (by omega)).trans (by simp [upd, h4])
    generalize hgc : (⟨#[abc.getD c 0]⟩ : ByteArray) = gc at hex hz hsu
    simp [Tryd.f39, h3', h4', h5, rsLetters, abcB_size, hw, hw1, hc0, hc1, hc2, hc3, hex, hz]
    refine ih (m + 1) _ _ (by omega) (by omega) (by simp [upd, h0']) (by simp [upd, hsu]) (by simp [upd]; omega)

theorem rsId (l : List Int) (hl : l.length ≤ 1000) (h01 : bits01 l) : run Tryd.prog 39 [.t (slT l)] = some (.t (.str (idT l ((l.length + 5) / 6))), []) := by
  refine run_go Tryd.func39 ok39 (by simp [Tryd.ntmps39]) rfl ?_
  simp [Tryd.f39]
  refine goL_of (lsId l hl h01 _ (fun e o h3 => ?_) _ 0 _ _ rfl (by omega) (by simp [upd]) (by simp [upd, idT]) (by simp [upd])) (fun _ _ h => h)
  simp [h3]
end Go.AX
