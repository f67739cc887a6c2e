/- NUMBERS IN DECIMAL (the reference's), a variant as a text (the program's). Printed by program from a template. -/
import Derived.Test.YtkinlkcdjecgmaaDoorDeskK
namespace Go.AX
open Go Go.Proofs
attribute [local simp] goX_nil goX_code goX_code_exit goX_code_ret goX_blk goX_blk_ret goX_blk_exit goR_some goB_true goB_false goC_seq goC_block goC_skip goC_exit goC_ret goC_loop goC_region goC_draw goC_cond finF_ret finF_normal finK_some lpΨ_normal lpΨ_exit lpΨ_ret runE_cons runE_nil runK_some runD_cons runD_nil runDK_some runDQ_true stepE_eq stepK_true stepK_false guardE_eq guardG_none guardG_some guardJ_some guardK_bool guardK_non effV_some cellsAt_ptr cellsAt_cp cellsK_box cellsK_row loadE_eq loadK_some loadC_struct loadC_int loadC_bool loadC_str loadC_slice loadC_ptr loadC_map fieldAddrE_eq fieldQ_some fieldK_ptr fieldK_cp map_eff tK_some binE_int binE_str eqK_some binE_eql_agg binE_neq_agg binE_eql_bool binE_neq_bool binE_eql_own binE_neq_own binE_eql_nil binE_neq_nil binE_eql_sl binE_neq_sl andK_some fsK_some eqFs_nil eqFs_cons eqCell_int eqCell_bool eqCell_str callE_eq callQ_some callK_some snapsA_cons snapsA_nil snapsAK_some aggK_some snapA_agg snapA_t snapA_fn snapA_own snaps_cons snaps_nil snapsK_some snap_t snap_own snapK_row ressE_cons ressE_nil ressK_some resE_tmp vK_some resE_cell codeOf opE St.app putS putO upd moveE pickE boxE allocE buildE buildSliceE storeE cellsOf fieldE indexAddrE indexE lenE appendE srcE makeSliceE minE maxE extractE sliceE boundE strE eqE nilQ intArithE unE convE bytesT strOf flatA flatB flat1 flatT flatOb newObs renA renB renT renOb ev ofVal enterS boxCell newOb nid joinE finishE outA outB outT outOb outOb' outIds addIds baseIds refs2 refsA refs1 boxRefs hO okE_nil okE_cons okQ_true okQ_false disE_nil disE_left disE_right apE_nil apE_cons rd_contains rd_mem idsW_nil idsW_cons tiedE evParts lay placeOf frz fz1 zeros Op.operands Call.operands Region.binds intBeq intBne List.idxOf?_cons loopAt loopsOf ti2 ti3 ti4 ti5 ti9 ti21 ti22 ti23 ti24 ti25 ti26 ti27 ti28 ti29 ti30 ti31 ti34 ti35 ti36 ti37 ti38 ti39 ti55 ti68 ti85 ti86 ti89 ti100 ti103
set_option maxRecDepth 100000
set_option maxHeartbeats 4000000

theorem decDigits_len (u k : Nat) (hk : 1 ≤ k) (h : u < 10 ^ k) : (Lib.decDigits u).length ≤ k := by
  induction k generalizing u with
  | zero => omega
  | succ k ih =>
    rw [Lib.decDigits]
    by_cases hu : u < 10
    · rw [dif_pos hu]; simp
    · rw [dif_neg hu]
      have h1 : 1 ≤ k := by
        rcases Nat.eq_zero_or_pos k with rfl | h2
        · simp at h; omega
        · exact h2
      have := ih (u / 10) h1 (by rw [Nat.pow_succ] at h; omega)
      simp only [List.length_append, List.length_cons, List.length_nil]; omega
theorem digB_len {u : Nat} (h : u < 10000000000000000000) : (digB u).size ≤ 19 := by
  have := decDigits_len u 19 (by omega) (by simpa using h)
  simpa [digB, ByteArray.size] using this
theorem itoaB_len {n : Int} (h : inI64 n) : (itoaB n).size ≤ 20 := by
  unfold inI64 at h
  unfold itoaB Lib.itoa
  split
  · have := decDigits_len n.natAbs 19 (by omega) (by omega)
    simpa [ByteArray.size] using this
  · have := decDigits_len n.toNat 19 (by omega) (by omega)
    simp [ByteArray.size]; omega

/-- Bytes as cells. -/
def tB (l : List UInt8) : List T := l.map fun b => .int .u8 b.toNat
theorem bytesT_tB : ∀ (l : List UInt8), bytesT (tB l) = some (l.map fun b => (b.toNat : Int))
  | [] => rfl
  | b :: l => by
    have := bytesT_tB l
    unfold tB at this ⊢
    simp only [List.map_cons, bytesT, this, Option.map_some]
theorem strOfNums_tB (l : List UInt8) : strOfNums (l.map fun b => (b.toNat : Int)) = ⟨l.toArray⟩ := by
  unfold strOfNums
  congr 1
  simp [List.map_map, Function.comp_def]
theorem tB_length (l : List UInt8) : (tB l).length = l.length := by simp [tB]

theorem frz1 {s : Nat → AV} {o : Obs} {t : Nat} {x : T} (h : snap o (s t) = some x) : ∃ o', frzSt ⟨s, o⟩ [t] = ⟨upd s t (.t x), o'⟩ ∧ (∀ id, (o' id).1 = (o id).1) ∧ ∀ id, id ∉ refs1 (s t) → o' id = o id := by
  refine ⟨putO o (frz o (refs1 (s t))), by simp [frzSt, frzSlot, h], fun id => ?_, fun id hid => ?_⟩
  · rw [putO_frz]; split <;> simp only [fz1_ver]
  · rw [putO_frz, if_neg hid]

def decInv (u r : Nat) (ds : List UInt8) : Prop := (ds = [] ∧ r = u) ∨ (r ≠ 0 ∧ ds ≠ [] ∧ Lib.decDigits u = Lib.decDigits r ++ ds) ∨ (r = 0 ∧ ds ≠ [] ∧ Lib.decDigits u = ds)
theorem decInv_step {u r : Nat} {ds : List UInt8} (h : decInv u r ds) (hr : r ≠ 0 ∨ ds = []) : decInv u (r / 10) (UInt8.ofNat (48 + r % 10) :: ds) := by
  have hb : Lib.decDigits u = Lib.decDigits r ++ ds := by
    rcases h with ⟨rfl, rfl⟩ | ⟨_, _, h⟩ | ⟨h0, h1, _⟩
    · simp
    · exact h
    · exact (hr.elim (fun h => h h0) h1).elim
  rw [Lib.decDigits.eq_def r] at hb
  by_cases h10 : r < 10
  · rw [dif_pos h10] at hb
    refine .inr (.inr ⟨by omega, by simp, ?_⟩)
    rw [Nat.mod_eq_of_lt h10]; exact hb
  · rw [dif_neg h10] at hb
    refine .inr (.inl ⟨by omega, by simp, ?_⟩)
    rw [hb]; simp
theorem decInv_len {u r : Nat} {ds : List UInt8} (h : decInv u r ds) (hu : u < 10000000000000000000) : ds.length ≤ 19 := by
  have := decDigits_len u 19 (by omega) (by simpa using hu)
  rcases h with ⟨rfl, rfl⟩ | ⟨_, _, h⟩ | ⟨_, _, h⟩
  · simp
  · rw [h] at this; simp at this; omega
  · rw [h] at this; exact this

theorem lsDec (n : Int) (hn : inI64 n) (Φ : Ex → St → Prop)
    (hT : ∀ e o ds, decInv n.natAbs 0 ds → ds ≠ [] → e 3 = .t (.sl ds.length (tB ds)) → e 0 = .t (.int .i64 n) → Φ (.exit 0) ⟨e, o⟩) (m : Nat) :
    ∀ (r : Int) (ds : List UInt8) (e : Nat → AV) (o : Obs), r.natAbs + (if ds = [] then 1 else 0) < m → (r ≤ 0 ∨ 0 ≤ n) → (0 ≤ r ∨ n ≤ 0) → inI64 r → decInv n.natAbs r.natAbs ds → e 0 = .t (.int .i64 n) → e 4 = .t (.int .i64 r) →
    snap o (e 3) = some (.sl ds.length (tB ds)) → To (loop Tryd.prog (loopAt Tryd.f16 0) ⟨e, o⟩) Φ := by
  generalize hc : loopAt Tryd.f16 0 = cd
  induction m with
  | zero => intro r ds e o h; omega
  | succ m ih =>
    intro r ds e o hm hs1 hs2 hr hd h0 h4 h3
    obtain ⟨o', hf, -, -⟩ := frz1 h3
    have hlen := decInv_len hd (by unfold inI64 at hn; omega)
    refine loop_goF hc (ts := [3]) rfl ?_
    rw [hf]
    by_cases hfin : r = 0 ∧ ds ≠ []
    · obtain ⟨rfl, hds⟩ := hfin
      have hl : (ds.length : Int) ≠ 0 := by
        have := List.length_pos_iff.2 hds; omega
      have hl2 : ds.length ≠ 0 := by omega
      simp [Tryd.f16, h0, h4, hl, hl2, hds]
      exact hT _ _ ds hd hds (by simp [upd]) (by simp [upd, h0])
    · have hrd : r ≠ 0 ∨ ds = [] := by
        by_cases h : r = 0
        · right; by_cases h' : ds = []
          · exact h'
          · exact (hfin ⟨h, h'⟩).elim
        · exact .inl h
      have hstep := decInv_step hd (hrd.imp (fun h => by omega) id)
      obtain ⟨q, hq⟩ : ∃ q : Int, q = r.tdiv 10 := ⟨_, rfl⟩
      obtain ⟨g, hg⟩ : ∃ g : Int, g = r.tmod 10 := ⟨_, rfl⟩
      have hqa : q.natAbs = r.natAbs / 10 := by rw [hq, Int.natAbs_tdiv]; rfl
      have hga : g.natAbs = r.natAbs % 10 := by rw [hg, Int.natAbs_tmod]; rfl
      have hsg : (0 ≤ r → 0 ≤ q) ∧ (r ≤ 0 → q ≤ 0) := by
        constructor
        · intro h; rw [hq]; exact Int.tdiv_nonneg h (by omega)
        · intro h; rw [hq, show r = -(-r) by omega, Int.neg_tdiv]
          have := Int.tdiv_nonneg (a := -r) (b := 10) (by omega) (by omega); omega
      have hq64 : inI64 q := by unfold inI64 at hr ⊢; omega
      have hqw : IntKind.i64.wrap q = q := wrap64 hq64
      have hgm : r.natAbs % 10 < 10 := Nat.mod_lt _ (by omega)
      have hgw : IntKind.i64.wrap (0 - g) = -g := by rw [wrap64 (by omega)]; omega
      have hgw2 : IntKind.i64.wrap (-g) = -g := wrap64 (by omega)
      obtain ⟨d, hd'⟩ : ∃ d : Nat, d = r.natAbs % 10 := ⟨_, rfl⟩
      have hmx : (if g < -g then -g else g) = (d : Int) := by split <;> omega
      have hw1 : IntKind.i64.wrap (48 + (d : Int)) = 48 + (d : Int) := wrap64 (by omega)
      have hw2 : IntKind.u8.wrap (48 + (d : Int)) = 48 + (d : Int) := wrap8 (by omega)
      have hb1 : 1 + ds.length ≤ 140737488355328 := by omega
      have hcell : T.int .u8 (48 + (d : Int)) = .int .u8 ((UInt8.ofNat (48 + r.natAbs % 10)).toNat : Int) := by
        congr 1
        rw [← hd']
        simp; omega
      have hrest : ∀ e' o', e' 0 = .t (.int .i64 n) → e' 4 = .t (.int .i64 q) → snap o' (e' 3) = some (.sl (1 + ds.length) (T.int .u8 (48 + (d : Int)) :: tB ds)) → To (loop Tryd.prog cd ⟨e', o'⟩) Φ := by
        intro e' o' a0 a4 a3
        refine ih q _ e' o' ?_ ?_ ?_ hq64 (by rw [hqa]; exact hstep) a0 a4 ?_
        · simp only [List.cons_ne_nil, if_false]
          split at hm <;> rcases hrd with h | h <;> first | omega | exact absurd h (by assumption)
        · have := hsg.2; omega
        · have := hsg.1; omega
        · rw [a3, hcell]; simp [tB, Nat.add_comm]
      by_cases hr0 : r = 0
      · have hds : ds = [] := hrd.resolve_left (fun h => h hr0)
        subst hds
        subst hr0
        simp at hq hg hd'
        subst hq hg hd'
        simp [Tryd.f16, h0, h4, tB, wrap64, wrap8]
        exact hrest _ _ (by simp [upd, h0]) (by simp [upd]) (by simp [upd, snap, tB])
      · simp [Tryd.f16, h0, h4, hr0, ← hq, ← hg, hqw, hgw, hgw2, hmx, hw1, hw2, tB_length, hb1, hlen]
        exact hrest _ _ (by simp [upd, h0]) (by simp [upd]) (by simp [upd, snap])

theorem rsDecimal (n : Int) (hn : inI64 n) : run Tryd.prog 16 [.t (.int .i64 n)] = some (.t (.str (itoaB n)), []) := by
  refine run_go Tryd.func16 ok16 (by simp [Tryd.ntmps16]) rfl ?_
  simp [Tryd.f16]
  refine goL_of (lsDec n hn _ (fun e o ds hd hne e3 e0 => ?_) _ n [] _ _ (Nat.lt_succ_self _) (by omega) (by omega) hn (.inl ⟨rfl, rfl⟩) (by simp [upd]) (by simp [upd]) (by simp [upd, snap, tB])) (fun _ _ h => h)
  have hdd : Lib.decDigits n.natAbs = ds := by
    rcases hd with ⟨rfl, _⟩ | ⟨h, _⟩ | ⟨_, _, h⟩
    · exact (hne rfl).elim
    · exact (h rfl).elim
    · exact h
  have hl := decDigits_len n.natAbs 19 (by omega) (by unfold inI64 at hn; omega)
  rw [hdd] at hl
  by_cases h : n < 0
  · have e1 : itoaB n = (⟨#[45]⟩ : ByteArray) ++ ⟨ds.toArray⟩ := by
      unfold itoaB Lib.itoa
      rw [if_pos h, hdd]; apply ByteArray.ext; rw [ByteArray.data_append]; simp
    have hsz : (⟨#[45]⟩ : ByteArray).size + (⟨ds.toArray⟩ : ByteArray).size ≤ 9223372036854775807 := by
      simp only [ByteArray.size, List.size_toArray, List.length_cons, List.length_nil]; omega
    simp [Tryd.f16, e0, e3, h, tB_length, bytesT_tB, strOfNums_tB, e1, hsz]
  · have e1 : itoaB n = ⟨ds.toArray⟩ := by
      unfold itoaB Lib.itoa
      rw [if_neg h, ← hdd]; congr 3; omega
    simp [Tryd.f16, e0, e3, h, tB_length, bytesT_tB, strOfNums_tB, e1]
end Go.AX
