/- A VARIANT AS A TEXT (the program's); A BOARD's BITS (both). Printed by program from a template. -/
import Derived.Test.YtkinlkcdjecgmaaDoorDeskL
namespace Go.AX
open Go Go.Proofs
attribute [local simp] goX_nil goX_code goX_code_exit goX_code_ret goX_blk goX_blk_ret goX_blk_exit goR_some goB_true goB_false goC_seq goC_block goC_skip goC_exit goC_ret goC_loop goC_region goC_draw goC_cond finF_ret finF_normal finK_some lpΨ_normal lpΨ_exit lpΨ_ret runE_cons runE_nil runK_some runD_cons runD_nil runDK_some runDQ_true stepE_eq stepK_true stepK_false guardE_eq guardG_none guardG_some guardJ_some guardK_bool guardK_non effV_some cellsAt_ptr cellsAt_cp cellsK_box cellsK_row loadE_eq loadK_some loadC_struct loadC_int loadC_bool loadC_str loadC_slice loadC_ptr loadC_map fieldAddrE_eq fieldQ_some fieldK_ptr fieldK_cp map_eff tK_some binE_int binE_str eqK_some binE_eql_agg binE_neq_agg binE_eql_bool binE_neq_bool binE_eql_own binE_neq_own binE_eql_nil binE_neq_nil binE_eql_sl binE_neq_sl andK_some fsK_some eqFs_nil eqFs_cons eqCell_int eqCell_bool eqCell_str callE_eq callQ_some callK_some snapsA_cons snapsA_nil snapsAK_some aggK_some snapA_agg snapA_t snapA_fn snapA_own snaps_cons snaps_nil snapsK_some snap_t snap_own snapK_row ressE_cons ressE_nil ressK_some resE_tmp vK_some resE_cell codeOf opE St.app putS putO upd moveE pickE boxE allocE buildE buildSliceE storeE cellsOf fieldE indexAddrE indexE lenE appendE srcE makeSliceE minE maxE extractE sliceE boundE strE eqE nilQ intArithE unE convE bytesT strOf flatA flatB flat1 flatT flatOb newObs renA renB renT renOb ev ofVal enterS boxCell newOb nid joinE finishE outA outB outT outOb outOb' outIds addIds baseIds refs2 refsA refs1 boxRefs hO okE_nil okE_cons okQ_true okQ_false disE_nil disE_left disE_right apE_nil apE_cons rd_contains rd_mem idsW_nil idsW_cons tiedE evParts lay placeOf frz fz1 zeros Op.operands Call.operands Region.binds intBeq intBne List.idxOf?_cons loopAt loopsOf ti2 ti3 ti4 ti5 ti9 ti21 ti22 ti23 ti24 ti25 ti26 ti27 ti28 ti29 ti30 ti31 ti34 ti35 ti36 ti37 ti38 ti39 ti55 ti68 ti85 ti86 ti89 ti100 ti103
set_option maxRecDepth 100000
set_option maxHeartbeats 4000000

theorem riVarText (p c h s : Int) : run Tryd.prog 23 [vA p c h s] = some (.t (.str (varT p c h s)), []) := by
  refine run_go Tryd.func23 ok23 (by simp [Tryd.ntmps23]) rfl ?_
  have hr := riVar p c h s
  cases h1 : isVar p c h s
  · rw [h1] at hr
    simp [vA] at hr
    simp [Tryd.f23, vA, hr, varT, h1]
  · rw [h1] at hr
    have hb : (2 ≤ p ∧ p ≤ 24) ∧ (1 ≤ c ∧ c ≤ 15) ∧ (1 ≤ h ∧ h ≤ 24) ∧ (1 ≤ s ∧ s ≤ 6) := by simp [isVar, inB] at h1; omega
    obtain ⟨p', rfl⟩ : ∃ x : Nat, p = x := ⟨p.toNat, by omega⟩
    obtain ⟨c', rfl⟩ : ∃ x : Nat, c = x := ⟨c.toNat, by omega⟩
    obtain ⟨h', rfl⟩ : ∃ x : Nat, h = x := ⟨h.toNat, by omega⟩
    obtain ⟨s', rfl⟩ : ∃ x : Nat, s = x := ⟨s.toNat, by omega⟩
    have s1 : (digB p').data.size ≤ p' + 1 := digB_size p'
    have s2 : (digB c').data.size ≤ c' + 1 := digB_size c'
    have s3 : (digB h').data.size ≤ h' + 1 := digB_size h'
    have s4 : (digB s').data.size ≤ s' + 1 := digB_size s'
    have hj := riJoin [(p' : Int), c', h', s'] ⟨#[47]⟩ (by simp) (by simp [inI64]; omega)
      (by simp [Lib.join, itoa_nat]; simp only [ByteArray.size]; omega)
    have he : joinB [itoaB p', itoaB c', itoaB h', itoaB s'] ⟨#[47]⟩ = varT p' c' h' s' := by
      simp only [varT, h1, if_true, itoa_nat, joinB, Lib.join, Int.toNat_natCast]
      apply ByteArray.ext
      simp [ByteArray.data_append]
    simp [slT, ints, he] at hj
    simp [vA] at hr
    simp [Tryd.f23, vA, hr, hj]

/-! ### bits -/
def bitsL (l : List Int) : List Int := l.flatMap fun n => List.replicate n.toNat 1 ++ [0]
/-- A list that grows behind a slot: nil while it is empty, or a row of the call's own under one of some numbers. -/
def Acc (t0 : TypeId) (ids : List Nat) (v : AV) (o : Obs) (l : List T) : Prop := (v = .t .nil ∧ l = []) ∨ ∃ id ∈ ids, ∃ ver, v = .own id ver ∧ o id = (ver, .row false true t0 1 l.length l)
theorem Acc.mk' {t0 : TypeId} {ids : List Nat} {v : AV} {o : Obs} {l l' : List T} {id ver n : Nat} (hid : id ∈ ids) (hv : v = .own id ver) (ho : o id = (ver, .row false true t0 1 n l')) (hn : n = l.length) (hl : l' = l) : Acc t0 ids v o l :=
  .inr ⟨id, hid, ver, hv, by rw [ho, hn, hl]⟩
theorem ints_append (a b : List Int) : ints (a ++ b) = ints a ++ ints b := by simp [ints]
theorem ints_length (a : List Int) : (ints a).length = a.length := by simp [ints]

theorem fr_upd {α : Type} {f : Nat → α} {i t : Nat} {v g : α} (h : f t = g) (hi : t ≠ i) : upd f i v t = g := by simp [upd, hi, h]
theorem liOnes (c : Nat) (Φ : Ex → St → Prop) (n : Nat) :
    ∀ (k : Nat) (l : List Int) (e : Nat → AV) (o : Obs), n = c - k → k ≤ c → e 24 = .t (.int .i64 c) → e 25 = .t (.int .i64 k) → Acc 2 [232, 264] (e 3) o (ints l) → l.length + n ≤ 100000 → c ≤ 100000 →
    (∀ e' o', (∀ t, t < 24 → t ≠ 3 → e' t = e t) → (∀ id, id < 200 → o' id = o id) → Acc 2 [232, 264] (e' 3) o' (ints (l ++ List.replicate n 1)) → Φ (.exit 4) ⟨e', o'⟩) →
    To (loop Tryd.prog (loopAt Tryd.f47 2) ⟨e, o⟩) Φ := by
  generalize hc : loopAt Tryd.f47 2 = cd
  induction n with
  | zero =>
    intro k l e o hn hk h24 h25 ha hl hc' hT
    have hk' : k = c := by omega
    subst hk'
    refine loop_go hc ?_
    simp [Tryd.f47, h24, h25]
    exact hT _ _ (by intro t h1 h2; repeat (first | rfl | refine fr_upd ?_ (by omega))) (by simp) (by simpa [upd] using ha)
  | succ n ih =>
    intro k l e o hn hk h24 h25 ha hl hc' hT
    have hk' : k < c := by omega
    have hw := wrap_succ hk' (show c ≤ 9223372036854775807 by omega)
    have hadd : ints (l ++ [1]) = ints l ++ [.int .i64 1] := by simp [ints]
    have hb : l.length + 1 ≤ 140737488355328 := by omega
    have hb8 : (l.length + 1) * 8 ≤ 140737488355328 := by omega
    have hT' : ∀ (e1 : Nat → AV) (o1 : Obs), (∀ t, t < 24 → t ≠ 3 → e1 t = e t) → (∀ id, id < 200 → o1 id = o id) → ∀ e' o', (∀ t, t < 24 → t ≠ 3 → e' t = e1 t) → (∀ id, id < 200 → o' id = o1 id) → Acc 2 [232, 264] (e' 3) o' (ints ((l ++ [1]) ++ List.replicate n 1)) → Φ (.exit 4) ⟨e', o'⟩ := by
      intro e1 o1 f1 g1 e' o' f2 g2 ha2
      refine hT e' o' (fun t a b => (f2 t a b).trans (f1 t a b)) (fun id a => (g2 id a).trans (g1 id a)) ?_
      rw [List.replicate_succ]; simpa using ha2
    refine loop_go hc ?_
    rcases ha with ⟨h3, hl0⟩ | ⟨id, hid, ver, h3, ho⟩
    · have hl1 : l = [] := by simpa [ints] using hl0
      simp [Tryd.f47, h24, h25, h3, hk', hw]
      refine ih (k + 1) (l ++ [1]) _ _ (by omega) (by omega) (by simp [upd, h24]) (by simp [upd]) (.mk' (id := 232) (by simp) rfl rfl (by simp [hl1, ints]) (by simp [hl1, ints])) (by simp; omega) hc' (hT' _ _ (by intro t h1 h2; repeat (first | rfl | refine fr_upd ?_ (by omega))) (by intro t h1; repeat (first | rfl | refine fr_upd ?_ (by omega))))
    · simp at hid
      rcases hid with rfl | rfl
      · simp [Tryd.f47, h24, h25, h3, ho, ints_length, hk', hw, hb, hb8]
        refine ih (k + 1) (l ++ [1]) _ _ (by omega) (by omega) (by simp [upd, h24]) (by simp [upd]) (.mk' (id := 232) (by simp) rfl rfl (by simp [hadd, ints_length]) (by simp [hadd])) (by simp; omega) hc' (hT' _ _ (by intro t h1 h2; repeat (first | rfl | refine fr_upd ?_ (by omega))) (by intro t h1; repeat (first | rfl | refine fr_upd ?_ (by omega))))
      · simp [Tryd.f47, h24, h25, h3, ho, ints_length, hk', hw, hb, hb8]
        refine ih (k + 1) (l ++ [1]) _ _ (by omega) (by omega) (by simp [upd, h24]) (by simp [upd]) (.mk' (id := 264) (by simp) rfl rfl (by simp [hadd, ints_length]) (by simp [hadd])) (by simp; omega) hc' (hT' _ _ (by intro t h1 h2; repeat (first | rfl | refine fr_upd ?_ (by omega))) (by intro t h1; repeat (first | rfl | refine fr_upd ?_ (by omega))))
def smallL (l : List Int) : Prop := l.length ≤ 25 ∧ ∀ x ∈ l, 0 ≤ x ∧ x ≤ 15
theorem bitsL_len : ∀ {l : List Int}, (∀ x ∈ l, 0 ≤ x ∧ x ≤ 15) → (bitsL l).length ≤ 16 * l.length
  | [], _ => by simp [bitsL]
  | x :: l, h => by
    have h1 := h x (by simp)
    have h2 := bitsL_len (l := l) (fun y hy => h y (by simp [hy]))
    simp only [bitsL, List.flatMap_cons, List.length_append, List.length_replicate, List.length_cons, List.length_nil] at h2 ⊢
    omega
theorem bitsL_take {l : List Int} {k : Nat} (hk : k < l.length) : bitsL (l.take (k + 1)) = bitsL (l.take k) ++ (List.replicate l[k].toNat 1 ++ [0]) := by
  unfold bitsL; rw [List.take_add_one, List.getElem?_eq_getElem hk, List.flatMap_append]; simp

theorem liMid (x : List Int) (hx : smallL x) (a : List Int) (hla : a.length ≤ 1000) (Φ : Ex → St → Prop) (n : Nat) :
    ∀ (k : Nat) (e : Nat → AV) (o : Obs), n = x.length - k → k ≤ x.length → e 18 = .t (slT x) → e 19 = .t (.int .i64 x.length) → e 20 = .t (.int .i64 k) → Acc 2 [232, 264] (e 3) o (ints (a ++ bitsL (x.take k))) →
    (∀ e' o', (∀ t, t < 18 → t ≠ 3 → t ≠ 7 → e' t = e t) → (∀ id, id < 200 → o' id = o id) → Acc 2 [232, 264] (e' 3) o' (ints (a ++ bitsL x)) → Φ (.exit 2) ⟨e', o'⟩) →
    To (loop Tryd.prog (loopAt Tryd.f47 1) ⟨e, o⟩) Φ := by
  generalize hc : loopAt Tryd.f47 1 = cd
  induction n with
  | zero =>
    intro k e o hn hk h18 h19 h20 ha hT
    have hk' : k = x.length := by omega
    subst hk'
    rw [List.take_length] at ha
    refine loop_go hc ?_
    simp [Tryd.f47, h18, h19, h20]
    exact hT _ _ (by intro t h1 h2 h3; repeat (first | rfl | refine fr_upd ?_ (by omega))) (fun _ _ => rfl) (by simpa [upd] using ha)
  | succ n ih =>
    intro k e o hn hk h18 h19 h20 ha hT
    have hk' : k < x.length := by omega
    have hw := wrap_succ hk' (show x.length ≤ 9223372036854775807 by have := hx.1; omega)
    have hxk := hx.2 x[k] (List.getElem_mem hk')
    obtain ⟨c, hcv⟩ : ∃ c : Nat, x[k] = (c : Int) := ⟨x[k].toNat, by omega⟩
    have hlen : (a ++ bitsL (x.take k)).length ≤ 1400 := by
      have h1 := bitsL_len (l := x.take k) (fun y hy => hx.2 y (List.mem_of_mem_take hy))
      have h2 := hx.1
      simp only [List.length_append, List.length_take] at h1 ⊢; omega
    have hfull : a ++ bitsL (x.take (k + 1)) = (a ++ bitsL (x.take k) ++ List.replicate c 1) ++ [0] := by
      rw [bitsL_take hk', hcv]; simp
    refine loop_go hc ?_
    simp [Tryd.f47, h18, h19, h20, hk', hk, ints, slT, hw, hcv]
    refine goL_of (liOnes c _ c 0 (a ++ bitsL (x.take k)) _ _ (by omega) (by omega) (by simp [upd]) (by simp [upd]) (by simpa [upd] using ha) (by omega) (by omega) (fun e1 o1 f1 g1 ha1 => ?_)) (fun _ _ h => h)
    have h18' : e1 18 = .t (slT x) := (f1 18 (by omega) (by omega)).trans (by simp [upd, h18])
    have h19' : e1 19 = .t (.int .i64 x.length) := (f1 19 (by omega) (by omega)).trans (by simp [upd, h19])
    have h20' : e1 20 = .t (.int .i64 k) := (f1 20 (by omega) (by omega)).trans (by simp [upd, h20])
    have f1' : ∀ t, t < 18 → t ≠ 3 → t ≠ 7 → e1 t = e t := fun t a b c => (f1 t (by omega) b).trans (by repeat (first | rfl | refine fr_upd ?_ (by omega)))
    generalize hl : a ++ bitsL (x.take k) ++ List.replicate c 1 = l at ha1 hfull
    have hll : l.length ≤ 1500 := by
      rw [← hl, List.length_append, List.length_replicate]; omega
    have hadd : ints (l ++ [0]) = ints l ++ [.int .i64 0] := by simp [ints]
    have hb : l.length + 1 ≤ 140737488355328 := by omega
    have hb8 : (l.length + 1) * 8 ≤ 140737488355328 := by omega
    have hT' : ∀ (e2 : Nat → AV) (o2 : Obs), (∀ t, t < 18 → t ≠ 3 → t ≠ 7 → e2 t = e1 t) → (∀ id, id < 200 → o2 id = o1 id) → ∀ e' o', (∀ t, t < 18 → t ≠ 3 → t ≠ 7 → e' t = e2 t) → (∀ id, id < 200 → o' id = o2 id) → Acc 2 [232, 264] (e' 3) o' (ints (a ++ bitsL x)) → Φ (.exit 2) ⟨e', o'⟩ := by
      intro e2 o2 f2 g2 e' o' f3 g3 ha2
      exact hT e' o' (fun t a b c => (f3 t a b c).trans ((f2 t a b c).trans (f1' t a b c))) (fun id a => (g3 id a).trans ((g2 id a).trans (g1 id a))) ha2
    simp only [slT, ints] at h18'
    rcases ha1 with ⟨h3, hl0⟩ | ⟨id, hid, ver, h3, ho⟩
    · have hl1 : l = [] := by simpa [ints] using hl0
      simp [Tryd.f47, h18', h19', h20', h3, hw]
      refine ih (k + 1) _ _ (by omega) (by omega) (by simp [upd, h18', slT, ints]) (by simp [upd, h19']) (by simp [upd]) (.mk' (id := 264) (by simp) rfl rfl (by simp [hfull, hl1, ints]) (by simp [hfull, hl1, ints])) (hT' _ _ (by intro t h1 h2 h3; repeat (first | rfl | refine fr_upd ?_ (by omega))) (by intro t h1; repeat (first | rfl | refine fr_upd ?_ (by omega))))
    · simp at hid
      rcases hid with rfl | rfl
      · simp [Tryd.f47, h18', h19', h20', h3, ho, ints_length, hw, hb, hb8]
        refine ih (k + 1) _ _ (by omega) (by omega) (by simp [upd, h18', slT, ints]) (by simp [upd, h19']) (by simp [upd]) (.mk' (id := 232) (by simp) rfl rfl (by simp [hfull, hadd, ints_length]) (by simp [hfull, hadd])) (hT' _ _ (by intro t h1 h2 h3; repeat (first | rfl | refine fr_upd ?_ (by omega))) (by intro t h1; repeat (first | rfl | refine fr_upd ?_ (by omega))))
      · simp [Tryd.f47, h18', h19', h20', h3, ho, ints_length, hw, hb, hb8]
        refine ih (k + 1) _ _ (by omega) (by omega) (by simp [upd, h18', slT, ints]) (by simp [upd, h19']) (by simp [upd]) (.mk' (id := 264) (by simp) rfl rfl (by simp [hfull, hadd, ints_length]) (by simp [hfull, hadd])) (hT' _ _ (by intro t h1 h2 h3; repeat (first | rfl | refine fr_upd ?_ (by omega))) (by intro t h1; repeat (first | rfl | refine fr_upd ?_ (by omega))))

theorem riBits (x y : List Int) (hx : smallL x) (hy : smallL y) (hne : x ≠ []) : run Tryd.prog 47 [bA x y] = some (.own 0 0, [.row false true 2 1 (bitsL (x ++ y)).length (ints (bitsL (x ++ y)))]) := by
  have hlx : (bitsL x).length ≤ 400 := by
    have := bitsL_len hx.2
    have := hx.1; omega
  have hne2 : bitsL (x ++ y) ≠ [] := by
    cases x with
    | nil => exact (hne rfl).elim
    | cons a l => simp [bitsL]
  have hap : bitsL x ++ bitsL y = bitsL (x ++ y) := by simp [bitsL]
  refine run_go Tryd.func47 ok47 (by simp [Tryd.ntmps47]) rfl ?_
  simp [Tryd.f47, bA]
  refine loop_go rfl ?_
  simp [Tryd.f47, slT]
  refine goL_of (liMid x hx [] (by simp) _ x.length 0 _ _ (by omega) (by omega) (by simp [upd, slT]) (by simp [upd]) (by simp [upd]) (.inl ⟨by simp [upd], by simp [bitsL, ints]⟩) (fun e1 o1 f1 g1 ha1 => ?_)) (fun _ _ h => h)
  have h12 : e1 12 = .own 96 1 := (f1 12 (by omega) (by omega) (by omega)).trans (by simp [upd])
  have h13 : e1 13 = .t (.int .i64 2) := (f1 13 (by omega) (by omega) (by omega)).trans (by simp [upd])
  have h14 : e1 14 = .t (.int .i64 0) := (f1 14 (by omega) (by omega) (by omega)).trans (by simp [upd])
  have ho1 : o1 96 = (1, .row false true 24 1 2 [slT x, slT y]) := by
    rw [g1 96 (by omega)]; simp [upd, slT]
  have w1 : IntKind.i64.wrap 1 = 1 := by decide
  have w2 : IntKind.i64.wrap 2 = 2 := by decide
  simp [Tryd.f47, h12, h13, h14, w1]
  refine loop_go rfl ?_
  simp [Tryd.f47, h12, h13, h14, ho1, slT]
  refine goL_of (liMid y hy (bitsL x) (by omega) _ y.length 0 _ _ (by omega) (by omega) (by simp [upd, slT]) (by simp [upd]) (by simp [upd]) (by simpa [upd, bitsL] using ha1) (fun e2 o2 f2 g2 ha2 => ?_)) (fun _ _ h => h)
  have h13' : e2 13 = .t (.int .i64 2) := (f2 13 (by omega) (by omega) (by omega)).trans (by simp [upd, h13])
  have h14' : e2 14 = .t (.int .i64 1) := (f2 14 (by omega) (by omega) (by omega)).trans (by simp [upd])
  simp [Tryd.f47, h13', h14', w2]
  refine loop_go rfl ?_
  rw [hap] at ha2
  simp [Tryd.f47, h13', h14', slT]
  rcases ha2 with ⟨h3, hl0⟩ | ⟨id, hid, ver, h3, ho⟩
  · exact absurd (by simpa [ints] using hl0) hne2
  · simp at hid
    rcases hid with rfl | rfl
    · simp [h3, ho, ints_length]
    · simp [h3, ho, ints_length]
end Go.AX
