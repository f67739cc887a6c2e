/- AN EVALUATOR OVER THE CALCULUS, of no program, part three: loops, functions, contracts; two library functions as known answers; words of the game. -/
import Derived.Test.YtkinlkcdjecgmaaDoorAxb
import Derived.LoopN
import Derived.ChangeShapes
import Derived.ChangeArms
import Derived.ChangeSame
import Derived.Carry
import Derived.Lib.LaidTab
import Derived.Lib.Join
import Derived.Lib.ItoaNum
import Derived.Sort.Grow
import Derived.Deep.Draws
namespace Go.AX
open Go Go.RowKit
variable [Cst]

def Ex.out : Ex → Exit
  | .normal => .normal
  | .exit id => .exit id
  | .ret => .ret

abbrev Loop' := Code → St → Option (Ex × St)

section
variable {P : Program} {nt : Nat} {w0 w w' : World} {N M0 : Nat → Prop} {E : Emb} {st : St} {a : Act}

/-- What the oracle says of a loop is so. -/
def LoopOk (P : Program) (nt : Nat) (w0 : World) (N M0 : Nat → Prop) (lp : Loop') : Prop :=
  P.follows .mixedOrders = true → ∀ c st ex st', lp c st = some (ex, st') → codeOk nt c = true → ∀ (Q : Exit → Act → World → Prop) E a w, Sim nt w0 N M0 E st a w →
    (∀ a' w' E', Sim nt w0 N M0 E' st' a' w' → Q ex.out a' w') → (Code.loop c).wp P Q a w

omit [Cst] in
theorem dst_ok {ops : Array Oper} (h : (ops.toList.all fun o => match o.dst with | some d => decide (d < nt) | none => true) = true) : ∀ o ∈ ops.toList, ∀ t, o.dst = some t → t < nt := by
  intro o ho t ht
  have := List.all_eq_true.1 h o ho
  rw [ht] at this
  simpa using this

theorem exec_ok (hm : P.follows .mixedOrders = true) {call : Call'} (hcall : Keeps P call) {lp : Loop'} (hlp : LoopOk P nt w0 N M0 lp) : ∀ (c : Code) {st : St} {ex : Ex} {st' : St}, exec P call lp c st = some (ex, st') → codeOk nt c = true →
    ∀ (Q : Exit → Act → World → Prop) E a w, Sim nt w0 N M0 E st a w → (∀ a' w' E', Sim nt w0 N M0 E' st' a' w' → Q ex.out a' w') → c.wp P Q a w := by
  intro c
  induction c with
  | skip =>
    intro st ex st' he _ Q E a w h hQ
    simp only [exec, Option.some.injEq, Prod.mk.injEq] at he
    obtain ⟨rfl, rfl⟩ := he
    exact wp_skip (hQ a w E h)
  | region id ops draw =>
    intro st ex st' he hc Q E a w h hQ
    simp only [exec] at he
    simp only [Option.map_eq_some_iff, Prod.mk.injEq] at he
    obtain ⟨st1, hr, rfl, rfl⟩ := he
    simp only [codeOk, Bool.and_eq_true] at hc
    cases draw with
    | false => exact wp_region_list (runE_ok hcall ops.toList h hr (dst_ok hc.2) hQ)
    | true => exact region_ok hm hcall (dst_ok hc.2) (by simpa using hc.1) hr h hQ
  | seq x y ihx ihy =>
    intro st ex st' he hc Q E a w h hQ
    simp only [exec] at he
    simp only [codeOk, Bool.and_eq_true] at hc
    unfold seqE at he
    split at he
    · rename_i st1 hx
      exact wp_seq (ihx hx hc.1 _ E a w h (fun a' w' E' h' => ihy he hc.2 Q E' a' w' h' hQ))
    · rename_i hx
      refine wp_seq (ihx he hc.1 _ E a w h (fun a' w' E' h' => ?_))
      cases ex with
      | normal => exact (hx st' he).elim
      | exit id => exact hQ a' w' E' h'
      | ret => exact hQ a' w' E' h'
  | cond c x y ihx ihy =>
    intro st ex st' he hc Q E a w h hQ
    simp only [exec] at he
    simp only [codeOk, Bool.and_eq_true] at hc
    have hv := ev_ok h c
    split at he
    · rename_i hb
      rw [hb] at hv; simp only [AVR, TR] at hv
      exact wp_cond_true hv (ihx he hc.1 Q E a w h hQ)
    · rename_i hb
      rw [hb] at hv; simp only [AVR, TR] at hv
      exact wp_cond_false hv (ihy he hc.2 Q E a w h hQ)
    · cases he
  | block id c ih =>
    intro st ex st' he hc Q E a w h hQ
    simp only [exec] at he
    simp only [codeOk] at hc
    unfold blockE at he
    split at he
    · rename_i j st1 hx
      refine wp_block (ih hx hc _ E a w h (fun a' w' E' h' => ?_))
      simp only [Ex.out, Exit.inBlock]
      split at he
      · rename_i e; rw [if_pos e]; simp at he; obtain ⟨rfl, rfl⟩ := he; exact hQ a' w' E' h'
      · rename_i e; rw [if_neg e]; simp at he; obtain ⟨rfl, rfl⟩ := he; exact hQ a' w' E' h'
    · rename_i hx
      refine wp_block (ih he hc _ E a w h (fun a' w' E' h' => ?_))
      cases ex with
      | normal => exact hQ a' w' E' h'
      | exit j => exact (hx j st' he).elim
      | ret => exact hQ a' w' E' h'
  | loop c ih =>
    intro st ex st' he hc Q E a w h hQ
    simp only [exec] at he
    simp only [codeOk] at hc
    exact hlp hm c st ex st' he hc Q E a w h hQ
  | exit id =>
    intro st ex st' he _ Q E a w h hQ
    simp only [exec, Option.some.injEq, Prod.mk.injEq] at he
    obtain ⟨rfl, rfl⟩ := he
    exact wp_exit (hQ a w E h)
  | ret =>
    intro st ex st' he _ Q E a w h hQ
    simp only [exec, Option.some.injEq, Prod.mk.injEq] at he
    obtain ⟨rfl, rfl⟩ := he
    exact wp_ret (hQ a w E h)
  | _ => intro st ex st' he; simp [exec] at he

/-! ### slots whose rows are read as data that stays, at the head of a loop -/
def frzSlot (st : St) (t : Nat) : St :=
  match snap st.o (st.s t) with
  | some x => ⟨upd st.s t (.t x), putO st.o (frz st.o (refs1 (st.s t)))⟩
  | none => st
def frzSt : St → List Nat → St
  | st, [] => st
  | st, t :: ts => frzSt (frzSlot st t) ts
/-- A number by which a loop's hint is found. -/
def keyOf : Code → Nat
  | .seq a _ => keyOf a
  | .block _ c => keyOf c
  | .cond _ a _ => keyOf a
  | .loop c => keyOf c
  | .region id ops _ => id * 100000000 + ops.size * 100000 + ((ops[0]?).bind (·.dst)).getD 0
  | _ => 0
theorem frzSlot_ok {E : Emb} {st : St} {a : Act} {w : World} (h : Sim nt w0 N M0 E st a w) (t : Nat) : Sim nt w0 N M0 E (frzSlot st t) a w := by
  unfold frzSlot
  cases hs : snap st.o (st.s t) with
  | none => exact h
  | some x =>
    have hf := h.frz (refs1 (st.s t))
    have ht := snap_frz h (refs1 (st.s t)) (h.sl t) hs (fun id hid => hid)
    refine { hf with sl := fun i => ?_ }
    by_cases e : i = t
    · subst e
      simp only [upd_same, AVR]
      exact ht
    · simp only [upd, e, if_false]
      exact hf.sl i
theorem frzSt_ok {E : Emb} {a : Act} {w : World} : ∀ (ts : List Nat) {st : St}, Sim nt w0 N M0 E st a w → Sim nt w0 N M0 E (frzSt st ts) a w
  | [], _, h => h
  | t :: ts, _, h => frzSt_ok ts (frzSlot_ok h t)

/-! ### loops by rounds -/
def loopN (P : Program) (H : Nat → List Nat) (call : Call') : Nat → Loop'
  | 0, _, _ => none
  | n + 1, c, st => match exec P call (loopN P H call n) c (frzSt st (H (keyOf c))) with
    | some (.normal, st') => loopN P H call n c st'
    | r => r

theorem rounds_ok (hm : P.follows .mixedOrders = true) {H : Nat → List Nat} {call : Call'} (hcall : Keeps P call) : ∀ (n : Nat), LoopOk P nt w0 N M0 (loopN P H call n) ∧ ∀ c st ex st', loopN P H call n c st = some (ex, st') → codeOk nt c = true → ex ≠ .normal ∧
    ∀ (Q : Exit → Act → World → Prop) E a w, Sim nt w0 N M0 E st a w → (∀ a' w' E', Sim nt w0 N M0 E' st' a' w' → Q ex.out a' w') → Code.rounds P c Q n a w
  | 0 => ⟨fun _ _ _ _ _ h => by simp [loopN] at h, fun _ _ _ _ h => by simp [loopN] at h⟩
  | n + 1 => by
    have ih := rounds_ok (H := H) hm hcall n
    have key : ∀ c st ex st', loopN P H call (n + 1) c st = some (ex, st') → codeOk nt c = true → ex ≠ .normal ∧
        ∀ (Q : Exit → Act → World → Prop) E a w, Sim nt w0 N M0 E st a w → (∀ a' w' E', Sim nt w0 N M0 E' st' a' w' → Q ex.out a' w') → Code.rounds P c Q (n + 1) a w := by
      intro c st ex st' he hc
      simp only [loopN] at he
      split at he
      · rename_i st1 hx
        refine ⟨(ih.2 c st1 ex st' he hc).1, fun Q E a w h hQ => ?_⟩
        simp only [Code.rounds]
        exact exec_ok hm hcall ih.1 c hx hc _ E a w (frzSt_ok _ h) (fun a' w' E' h' => (ih.2 c st1 ex st' he hc).2 Q E' a' w' h' hQ)
      · rename_i hx
        have hne : ex ≠ .normal := by rintro rfl; exact hx st' he
        refine ⟨hne, fun Q E a w h hQ => ?_⟩
        simp only [Code.rounds]
        refine exec_ok hm hcall ih.1 c he hc _ E a w (frzSt_ok _ h) (fun a' w' E' h' => ?_)
        cases ex with
        | normal => exact (hne rfl).elim
        | exit id => exact hQ a' w' E' h'
        | ret => exact hQ a' w' E' h'
    exact ⟨fun _ c st ex st' he hc Q E a w h hQ => wp_loop_rounds (n + 1) ((key c st ex st' he hc).2 Q E a w h hQ), key⟩
end
end Go.AX

namespace Go.AX
open Go Go.RowKit
variable [Cst]

section
variable {P : Program} {nt : Nat} {w0 w w' : World} {N M0 : Nat → Prop} {E : Emb} {st : St} {a : Act}

/-! ### the way in -/
theorem enter_ok {args : List AV} {h : List AOb} {vs : List Value} (hr : HRel N M0 w E h) (hv : AVRs E (hO h) w (Mu N E (hO h)) args vs) (hn : args.length ≤ nt) :
    Sim nt w N M0 E (enterS args h) { tmps := vs.toArray ++ Array.replicate (nt - vs.toArray.size) undef, defers := [] } w where
  sz := by
    have := AVRs_length hv
    simp only [Array.size_append, List.size_toArray, Array.size_replicate]; omega
  sl t := by
    simp only [enterS]
    cases hx : args[t]? with
    | none => simp [AVR]
    | some x =>
      obtain ⟨v, h1, h2⟩ := AVRs_get hv hx
      have hlt : t < vs.length := (List.getElem?_eq_some_iff.1 h1).1
      have : (vs.toArray ++ Array.replicate (nt - vs.toArray.size) undef).getD t undef = v := by
        rw [Array.getD_eq_getD_getElem?, Array.getElem?_append_left (by simpa using hlt)]
        simp [h1]
      simp only [Option.getD_some]
      rw [this]; exact h2
  df := rfl
  ob := hr.ob
  inj := hr.inj
  fr := ⟨rfl, rfl, rfl, Nat.le_refl _, fun _ _ _ => rfl⟩
  lv i g h1 h2 := .inl (hr.lv i g h1 h2)
  nf := hr.nf
  kb := hr.kb

/-! ### the way out -/
def outE (E : Emb) (ids : List (Option Nat)) (k : Nat) : Value :=
  match ids[k]? with
  | some (some id) => E id
  | _ => undef
def outF (o : Obs) (ids : List (Option Nat)) : Option Nat → AOb
  | some id => outOb' o ids (o id).2
  | none => .dead

omit [Cst] in
theorem outOb_live (o : Obs) (ids : List (Option Nat)) (x : AOb) : (outOb' o ids x).live = x.live := by cases x <;> rfl
omit [Cst] in
theorem outOb_dead (o : Obs) (ids : List (Option Nat)) (x : AOb) : (outOb' o ids x).isDead = x.isDead := by cases x <;> rfl

omit [Cst] in
theorem hO_out (o : Obs) (ids : List (Option Nat)) (k : Nat) : hO (ids.map (outF o ids)) k = (0, match ids[k]? with | some (some id) => outOb' o ids (o id).2 | _ => .dead) := by
  simp only [hO, List.getElem?_map]
  cases ids[k]? with
  | none => rfl
  | some x => cases x <;> rfl

omit [Cst] in
theorem out_id {o : Obs} {ids : List (Option Nat)} {k : Nat} (h : (hO (ids.map (outF o ids)) k).2.isDead = false) :
    ∃ id, ids[k]? = some (some id) ∧ (hO (ids.map (outF o ids)) k).2 = outOb' o ids (o id).2 := by
  rw [hO_out] at h ⊢
  split at h
  · rename_i id hk; exact ⟨id, hk, rfl⟩
  · simp [AOb.isDead] at h

omit [Cst] in
theorem outE_id {ids : List (Option Nat)} {k id : Nat} (h : ids[k]? = some (some id)) : outE E ids k = E id := by simp [outE, h]

omit [Cst] in
theorem out_mu {ids : List (Option Nat)} : ∀ b, Mu N (outE E ids) (hO (ids.map (outF st.o ids))) b → Mu N E st.o b := by
  rintro b (h | ⟨k, h1, h2⟩)
  · exact .inl h
  · obtain ⟨id, hk, he⟩ := out_id (AOb.live_nd h1)
    rw [he, outOb_live] at h1
    rw [outE_id hk] at h2
    exact .inr ⟨id, h1, h2⟩

theorem outT_ok (h : Sim nt w0 N M0 E st a w) (ids : List (Option Nat)) {x : AV} {v : Value} (hv : AVR E st.o w (Mu N E st.o) x v) :
    AVR (outE E ids) (hO (ids.map (outF st.o ids))) w (Mu N (outE E ids) (hO (ids.map (outF st.o ids)))) (outT st.o ids x) v := by
  have k : Keep w (Mu N E st.o) w (Mu N (outE E ids) (hO (ids.map (outF st.o ids)))) := ⟨Nat.le_refl _, fun _ _ _ => rfl, fun b _ => out_mu b⟩
  have hidx : ∀ {id k' : Nat}, ids.idxOf? (some id) = some k' → ids[k']? = some (some id) := by
    intro id k' hk
    rw [List.idxOf?, List.findIdx?_eq_some_iff_getElem] at hk
    obtain ⟨hlt, h1, _⟩ := hk
    rw [List.getElem?_eq_getElem hlt]
    simpa using h1
  cases x with
  | t x => simp only [outT, AVR] at hv ⊢; exact TR_keep k _ _ hv
  | fn f => simpa only [outT, AVR] using hv
  | cp cs =>
    simp only [outT, AVR] at hv ⊢
    obtain ⟨ad, rfl, h1, h2, h3⟩ := hv
    exact ⟨ad, rfl, fun hb => h1 (out_mu _ hb), h2, TRs_keep k ad h1 h2 0 cs h3⟩
  | non => simpa only [outT, AVR] using hv
  | undef => simp [outT, AVR]
  | agg xs => simp [outT, AVR]
  | tup xs => simp [outT, AVR]
  | own id ver =>
    simp only [outT]
    split
    · rename_i hver
      split
      · rename_i nn e sz n cs hob
        have hs : snap st.o (.own id ver) = some (if n = 0 ∧ nn = false then .em else .sl n cs) := by simp only [snap, hver, if_true, hob]
        simp only [AVR]
        refine snap_at h (fun b => out_mu b) hv hs (fun id' hid g hg hM => ?_)
        simp only [refs1, List.mem_singleton] at hid
        subst hid
        exact not_mu_frozen h (id := id') (by rw [hob]; rfl) (by rw [hob]; rfl) hg (out_mu _ hM)
      · rename_i nn e sz n cs hob
        split
        · rename_i k' hk
          have hk := hidx hk
          simp only [AVR] at hv ⊢
          refine ⟨Nat.zero_le _, fun _ => ?_⟩
          rw [outE_id hk]; exact hv.2 hver
        · simp [AVR]
      · simp [AVR]
    · simp [AVR]
  | ptr id ver off =>
    simp only [outT]
    split
    · rename_i hver
      split
      · rename_i k' hk
        have hk := hidx hk
        simp only [AVR] at hv ⊢
        refine ⟨Nat.zero_le _, fun _ => ?_⟩
        rw [outE_id hk]; exact hv.2 hver
      · simp [AVR]
    · simp [AVR]
  | mp id ver =>
    simp only [outT]
    split
    · rename_i hver
      split
      · rename_i k' hk
        have hk := hidx hk
        simp only [AVR] at hv ⊢
        refine ⟨Nat.zero_le _, fun _ => ?_⟩
        rw [outE_id hk]; exact hv.2 hver
      · simp [AVR]
    · simp [AVR]

theorem outTs_ok (h : Sim nt w0 N M0 E st a w) (ids : List (Option Nat)) : ∀ {xs : List AV} {vs : List Value}, AVRs E st.o w (Mu N E st.o) xs vs →
    AVRs (outE E ids) (hO (ids.map (outF st.o ids))) w (Mu N (outE E ids) (hO (ids.map (outF st.o ids)))) (xs.map (outT st.o ids)) vs
  | [], _, hv => by simpa only [AVRs, List.map_nil] using hv
  | x :: xs, vs, hv => by
    simp only [AVRs, List.map_cons] at hv ⊢
    obtain ⟨v, vs', rfl, h1, h2⟩ := hv
    exact ⟨v, vs', rfl, outT_ok h ids h1, outTs_ok h ids h2⟩

theorem outB_ok (h : Sim nt w0 N M0 E st a w) (ids : List (Option Nat)) {x : AV} {v : Value} (hv : AVR E st.o w (Mu N E st.o) x v) :
    AVR (outE E ids) (hO (ids.map (outF st.o ids))) w (Mu N (outE E ids) (hO (ids.map (outF st.o ids)))) (outB st.o ids x) v := by
  cases x with
  | agg xs =>
    simp only [outB, AVR] at hv ⊢
    obtain ⟨vs, rfl, hvs⟩ := hv
    exact ⟨vs, rfl, outTs_ok h ids hvs⟩
  | _ => exact outT_ok h ids hv

theorem outBs_ok (h : Sim nt w0 N M0 E st a w) (ids : List (Option Nat)) : ∀ {xs : List AV} {vs : List Value}, AVRs E st.o w (Mu N E st.o) xs vs →
    AVRs (outE E ids) (hO (ids.map (outF st.o ids))) w (Mu N (outE E ids) (hO (ids.map (outF st.o ids)))) (xs.map (outB st.o ids)) vs
  | [], _, hv => by simpa only [AVRs, List.map_nil] using hv
  | x :: xs, vs, hv => by
    simp only [AVRs, List.map_cons] at hv ⊢
    obtain ⟨v, vs', rfl, h1, h2⟩ := hv
    exact ⟨v, vs', rfl, outB_ok h ids h1, outBs_ok h ids h2⟩

theorem outA_ok (h : Sim nt w0 N M0 E st a w) (ids : List (Option Nat)) {x : AV} {v : Value} (hv : AVR E st.o w (Mu N E st.o) x v) :
    AVR (outE E ids) (hO (ids.map (outF st.o ids))) w (Mu N (outE E ids) (hO (ids.map (outF st.o ids)))) (outA st.o ids x) v := by
  cases x with
  | tup xs =>
    simp only [outA, AVR] at hv ⊢
    obtain ⟨vs, rfl, hvs⟩ := hv
    exact ⟨vs, rfl, outBs_ok h ids hvs⟩
  | _ => exact outB_ok h ids hv

theorem outOb_ok (h : Sim nt w0 N M0 E st a w) (ids : List (Option Nat)) {v : Value} {x : AOb} (hv : OR E st.o w (Mu N E st.o) v x) :
    OR (outE E ids) (hO (ids.map (outF st.o ids))) w (Mu N (outE E ids) (hO (ids.map (outF st.o ids)))) v (outOb' st.o ids x) := by
  have k : Keep w (Mu N E st.o) w (Mu N (outE E ids) (hO (ids.map (outF st.o ids)))) := ⟨Nat.le_refl _, fun _ _ _ => rfl, fun b _ => out_mu b⟩
  cases x with
  | dead => trivial
  | map kt vt es => exact hv.elim
  | row fz nn e sz n cs =>
    obtain ⟨us, h1, h2, h3⟩ := hv
    exact ⟨us, h1, TL_keep k _ _ h2, h3⟩
  | box t cs =>
    obtain ⟨g, us, h1, h2, h3, h4⟩ := hv
    exact ⟨g, us, h1, h2, outTs_ok h ids h3, h4⟩

theorem leave_ok (hM : ∀ b, ¬ M0 b) (h : Sim nt w0 N M0 E st a w) (E0 : Emb) (ids : List (Option Nat)) (hnd : ids.Nodup) {r : AV} {v : Value} (hv : AVR E st.o w (Mu N E st.o) r v) :
    HRes N M0 w0 w E0 (outE E ids) 0 (ids.map (outF st.o ids)) (outA st.o ids r) v where
  fr := h.fr
  same _ hj := absurd hj (Nat.not_lt_zero _)
  ob j := by
    by_cases hd : (hO (ids.map (outF st.o ids)) j).2.isDead = true
    · cases hx : (hO (ids.map (outF st.o ids)) j).2 <;> rw [hx] at hd <;> first | trivial | simp [AOb.isDead] at hd
    · obtain ⟨id, hk, he⟩ := out_id (by simpa using hd)
      rw [he, outE_id hk]
      exact outOb_ok h ids (h.ob id)
  inj i j g h1 h2 h3 h4 := by
    obtain ⟨id, hk, he⟩ := out_id (AOb.live_nd h1)
    obtain ⟨id', hk', he'⟩ := out_id h2
    rw [he, outOb_live] at h1
    rw [he', outOb_dead] at h2
    rw [outE_id hk] at h3
    rw [outE_id hk'] at h4
    have := h.inj id id' g h1 h2 h3 h4
    subst this
    obtain ⟨hi, e1⟩ := List.getElem?_eq_some_iff.1 hk
    obtain ⟨hj, e2⟩ := List.getElem?_eq_some_iff.1 hk'
    rcases Nat.lt_trichotomy i j with hlt | rfl | hlt
    · exact (List.pairwise_iff_getElem.1 hnd i j hi hj hlt (e1.trans e2.symm)).elim
    · rfl
    · exact (List.pairwise_iff_getElem.1 hnd j i hj hi hlt (e2.trans e1.symm)).elim
  lv i g h1 h2 := by
    obtain ⟨id, hk, he⟩ := out_id h1
    rw [he, outOb_dead] at h1
    rw [outE_id hk] at h2
    rcases h.lv id g h1 h2 with h3 | h3
    · exact (hM g h3).elim
    · exact .inr h3
  val := outA_ok h ids hv
  len := Nat.zero_le _

omit [Cst] in
theorem nodup_addIds (o : Obs) : ∀ (l : List Nat) (ids : List (Option Nat)), ids.Nodup → (addIds o ids l).Nodup
  | [], _, h => h
  | id :: l, ids, h => by
    simp only [addIds]
    split
    · rename_i hc
      refine nodup_addIds o l _ ?_
      rw [List.nodup_append]
      refine ⟨h, by simp, fun x hx y hy e => ?_⟩
      simp only [List.mem_singleton] at hy
      subst hy; subst e
      exact hc.2 hx
    · exact nodup_addIds o l ids h

omit [Cst] in
theorem nodup_outIds (o : Obs) (r : AV) : (outIds o 0 r).Nodup := by
  unfold outIds
  exact nodup_addIds o _ _ (nodup_addIds o _ _ (by simp [baseIds]))

/-! ### results -/
theorem res_ok (h : Sim nt w0 N M0 E st a w) {x : ResultVar} {v : AV} (hr : resE P st x = some v) :
    ∃ u, (match x with | .tmp t => pure (a.tmps.getD t undef) | .cell b t => do loadVar t (← asAddr (a.tmps.getD b undef)) : Sem Value).run P w = .ok u w ∧ AVR E st.o w (Mu N E st.o) v u := by
  cases x with
  | tmp t => simp [resE] at hr; subst hr; exact ⟨_, rfl, h.sl t⟩
  | cell b t =>
    simp only [resE, Option.map_eq_some_iff] at hr
    obtain ⟨e, he, rfl⟩ := hr
    unfold loadE at he
    split at he
    · rename_i i cs hi hc
      simp only [Option.map_eq_some_iff] at he
      obtain ⟨y, hy, rfl⟩ := he
      obtain ⟨p, u, hp, hl, hu⟩ := run_loadVar_of hi h (h.sl b) hc hy
      refine ⟨u, ?_, hu⟩
      simp only [hp, Sem.run_bind, asAddr, Sem.run_pure, Result.andThen_ok]
      exact hl
    · cases he

theorem ress_ok (h : Sim nt w0 N M0 E st a w) : ∀ {xs : List ResultVar} {vs : List AV}, ressE P st xs = some vs →
    ∃ us, (xs.mapM fun x => (match x with | .tmp t => pure (a.tmps.getD t undef) | .cell b t => do loadVar t (← asAddr (a.tmps.getD b undef)) : Sem Value)).run P w = .ok us w ∧ AVRs E st.o w (Mu N E st.o) vs us
  | [], vs, hr => by simp [ressE] at hr; subst hr; exact ⟨[], by simp, by simp [AVRs]⟩
  | x :: xs, vs, hr => by
    simp only [ressE] at hr
    split at hr
    · rename_i v vs' h1 h2
      simp at hr; subst hr
      obtain ⟨u, hu, hv⟩ := res_ok h h1
      obtain ⟨us, hus, hvs⟩ := ress_ok h h2
      refine ⟨u :: us, ?_, ?_⟩
      · rw [List.mapM_cons, Sem.run_bind, hu]
        simp only [Result.andThen_ok]
        rw [Sem.run_bind, hus]
        simp
      · simp only [AVRs]; exact ⟨u, us, rfl, hv, hvs⟩
    · cases hr

theorem results_ok (h : Sim nt w0 N M0 E st a w) {fn : Func} {vs : List AV} (hr : ressE P st fn.results.toList = some vs) :
    ∃ v, (results fn a.tmps).run P w = .ok v w ∧ AVR E st.o w (Mu N E st.o) (joinE vs) v := by
  obtain ⟨us, hus, hvs⟩ := ress_ok h hr
  have hm : (fn.results.mapM fun x => (match x with | .tmp t => pure (a.tmps.getD t undef) | .cell b t => do loadVar t (← asAddr (a.tmps.getD b undef)) : Sem Value)).run P w = .ok us.toArray w := by
    rw [Array.mapM_eq_mapM_toList, Sem.run_map, hus]; rfl
  have hl := AVRs_length hvs
  unfold results
  rw [Sem.run_bind]
  refine ⟨_, by erw [hm]; simp only [Result.andThen_ok, Sem.run_pure]; rfl, ?_⟩
  cases vs with
  | nil =>
    simp only [AVRs] at hvs; subst hvs
    simp [joinE, AVR, AVRs]
  | cons x xs =>
    cases xs with
    | nil =>
      simp only [AVRs] at hvs
      obtain ⟨u, us', rfl, hu, rfl⟩ := hvs
      simpa [joinE] using hu
    | cons y ys =>
      have : ¬ us.toArray.size = 1 := by simp [hl]
      rw [dif_neg this]
      simp only [joinE, AVR]
      exact ⟨us, rfl, hvs⟩

/-! ### a function -/
def bodyE (P : Program) (call : Call') (lp : Loop') (f : FuncId) (xs : List AV) : Option (AV × List AOb) :=
  match P.funcs[f]? with
  | some fn => match fn.body with
    | some c => if fn.name ≠ "runtime.NumGoroutine" ∧ codeOk fn.ntmps c = true ∧ xs.length ≤ fn.ntmps ∧ P.follows .mixedOrders = true then
        match exec P call lp c (enterS xs []) with
        | some (.normal, st) => (ressE P st fn.results.toList).map fun rs => finishE st 0 (joinE rs)
        | some (.ret, st) => (ressE P st fn.results.toList).map fun rs => finishE st 0 (joinE rs)
        | _ => none
      else none
    | none => none
  | none => none

omit [Cst] in
theorem Fr.weaken {w w' : World} {M : Nat → Prop} (h : Fr w (fun _ => False) w') : Fr w M w' := ⟨h.os, h.tape, h.output, h.size, fun b hb _ => h.block b hb id⟩

theorem body_ok {call : Call'} (hcall : Keeps P call) {lp : Loop'} (hlp : ∀ nt w0 N M0, LoopOk P nt w0 N M0 lp) {f : FuncId} {xs : List AV} {r : AV} {obs : List AOb} (hb : bodyE P call lp f xs = some (r, obs)) :
    callable P f = true ∧ Con P f xs [] r obs := by
  unfold bodyE at hb
  split at hb
  · rename_i fn hf
    split at hb
    · rename_i c hc
      split at hb
      · rename_i hok
        refine ⟨by simp [callable, hf, hc, hok.1], ?_⟩
        intro N M0 w E vs hr hv
        have hr' : HRel N (fun _ => False) w E [] := ⟨hr.ob, hr.inj, fun i g h1 _ => by simp [hO_nil, AOb.isDead] at h1, fun b hb => ⟨(hr.nf b hb).1, id⟩, fun g c hg => ⟨(hr.kb g c hg).1, id⟩⟩
        have hs := enter_ok hr' hv hok.2.2.1
        have fin : ∀ (st : St), (ressE P st fn.results.toList).map (fun rs => finishE st 0 (joinE rs)) = some (r, obs) → ∀ a' w' E', Sim fn.ntmps w N (fun _ => False) E' st a' w' →
            a'.defers = [] ∧ ∃ v, (results fn a'.tmps).run P w' = .ok v w' ∧ ∃ v' E'', Ending.returned v = .returned v' ∧ HRes N M0 w w' E E'' 0 obs r v' := by
          intro st he a' w' E' hs'
          refine ⟨hs'.df, ?_⟩
          simp only [Option.map_eq_some_iff] at he
          obtain ⟨rs, hrs, he⟩ := he
          obtain ⟨v, hv1, hv2⟩ := results_ok hs' hrs
          have hL := leave_ok (fun _ => id) hs' E (outIds st.o 0 (joinE rs)) (nodup_outIds _ _) hv2
          have e1 : finishE st 0 (joinE rs) = (outA st.o (outIds st.o 0 (joinE rs)) (joinE rs), (outIds st.o 0 (joinE rs)).map (outF st.o (outIds st.o 0 (joinE rs)))) := by
            unfold finishE; congr 1
          rw [e1] at he
          simp only [Prod.mk.injEq] at he
          obtain ⟨rfl, rfl⟩ := he
          exact ⟨v, hv1, v, _, rfl, ⟨hL.fr.weaken, hL.same, hL.ob, hL.inj, fun i g h1 h2 => (hL.lv i g h1 h2).elim (fun h => h.2.elim) .inr, hL.val, hL.len⟩⟩
        refine calls_of_wp hf hc ?_
        split at hb
        · rename_i st he
          exact exec_ok hok.2.2.2 hcall (hlp _ _ _ _) c he hok.2.1 _ E _ w hs (fun a' w' E' hs' => fin st hb a' w' E' hs')
        · rename_i st he
          exact exec_ok hok.2.2.2 hcall (hlp _ _ _ _) c he hok.2.1 _ E _ w hs (fun a' w' E' hs' => fin st hb a' w' E' hs')
        · cases hb
      · cases hb
    · cases hb
  · cases hb
end
end Go.AX

namespace Go.AX
open Go Go.RowKit
variable [Cst]

/-! ### more answers, more results -/
def Le {α β γ : Type} (c c' : α → β → Option γ) : Prop := ∀ f xs r, c f xs = some r → c' f xs = some r

section
variable {P : Program} {call call' : Call'} {lp lp' : Loop'}

omit [Cst] in
theorem callE_mono (h : Le call call') {o : Obs} {d : Option Nat} {f : FuncId} {args : List AV} {e : Eff} (he : callE call o d f args = some e) : callE call' o d f args = some e := by
  unfold callE at he ⊢
  split at he
  · cases he
  · rename_i xs hx
    cases hc : call f xs with
    | none => rw [hc] at he; cases he
    | some r => rw [hc] at he; rw [h _ _ _ hc]; exact he

omit [Cst] in
theorem opE_mono (h : Le call call') {s : Nat → AV} {o : Obs} {op : Oper} {e : Eff} (he : opE P call s o op = some e) : opE P call' s o op = some e := by
  unfold opE at he ⊢
  split at he <;> try exact he
  rename_i c ho
  obtain ⟨callee, args, ts⟩ := c
  dsimp only at he ⊢
  split at he <;> try exact he
  split at he
  · exact callE_mono h he
  · cases he

omit [Cst] in
theorem stepE_mono (h : Le call call') {ops : Array Oper} {st : St} {o : Oper} {e : Eff} (he : stepE P call ops st o = some e) : stepE P call' ops st o = some e := by
  unfold stepE at he ⊢
  split at he
  · exact opE_mono h he
  · exact he
  · cases he

omit [Cst] in
theorem runE_mono (h : Le call call') {ops : Array Oper} : ∀ {os : List Oper} {st st' : St}, runE P call ops os st = some st' → runE P call' ops os st = some st'
  | [], _, _, he => he
  | o :: os, st, st', he => by
    simp only [runE] at he ⊢
    split at he
    · rename_i e hs
      rw [stepE_mono h hs]; exact runE_mono h he
    · cases he

omit [Cst] in
theorem runD_mono (h : Le call call') {ops : Array Oper} : ∀ {os : List Oper} {rs : List Rc} {st st' : St}, runD P call ops rs os st = some st' → runD P call' ops rs os st = some st'
  | [], _, _, _, he => he
  | o :: os, rs, st, st', he => by
    simp only [runD] at he ⊢
    split at he
    · rename_i e hs
      rw [stepE_mono h hs]
      split at he
      · rename_i hok
        simp only [if_pos hok]
        exact runD_mono h he
      · cases he
    · cases he

omit [Cst] in
theorem exec_mono (h : Le call call') (hl : Le lp lp') : ∀ (c : Code) {st : St} {r : Ex × St}, exec P call lp c st = some r → exec P call' lp' c st = some r := by
  intro c
  induction c with
  | region id ops draw =>
    intro st r he
    simp only [exec] at he ⊢
    simp only [Option.map_eq_some_iff] at he ⊢
    obtain ⟨st1, h1, rfl⟩ := he
    cases draw with
    | true => exact ⟨st1, runD_mono h h1, rfl⟩
    | false => exact ⟨st1, runE_mono h h1, rfl⟩
  | seq x y ihx ihy =>
    intro st r he
    simp only [exec] at he ⊢
    cases hx : exec P call lp x st with
    | none => rw [hx] at he; simp [seqE] at he
    | some q =>
      rw [ihx hx]
      rw [hx] at he
      unfold seqE at he ⊢
      split at he
      · rename_i st1 hq
        cases hq
        exact ihy he
      · exact he
  | cond c x y ihx ihy =>
    intro st r he
    simp only [exec] at he ⊢
    split at he
    · rename_i hb; exact ihx he
    · rename_i hb; exact ihy he
    · cases he
  | block id c ih =>
    intro st r he
    simp only [exec] at he ⊢
    cases hx : exec P call lp c st with
    | none => rw [hx] at he; simp [blockE] at he
    | some q => rw [ih hx]; rw [hx] at he; exact he
  | loop c ih => intro st r he; simp only [exec] at he ⊢; exact hl _ _ _ he
  | _ => intro st r he; simpa only [exec] using he

omit [Cst] in
theorem loopN_mono {H : Nat → List Nat} (h : Le call call') : ∀ n, Le (loopN P H call n) (loopN P H call' (n + 1))
  | 0 => fun _ _ _ he => by simp [loopN] at he
  | n + 1 => fun c st r he => by
    have ih := loopN_mono (H := H) h n
    rw [loopN] at he ⊢
    split at he
    · rename_i st1 hx
      rw [exec_mono h ih c hx]
      exact ih _ _ _ he
    · rename_i hx
      cases hq : exec P call (loopN P H call n) c (frzSt st (H (keyOf c))) with
      | none => rw [hq] at he; cases he
      | some q =>
        rw [exec_mono h ih c hq]
        rw [hq] at he
        split
        · rename_i st1 h1; cases h1; exact (hx st1 hq).elim
        · exact he

omit [Cst] in
theorem loopN_le_call {H : Nat → List Nat} (h : Le call call') : ∀ n, Le (loopN P H call n) (loopN P H call' n)
  | 0 => fun _ _ _ he => he
  | n + 1 => fun c st r he => by
    have ih := loopN_le_call (H := H) h n
    rw [loopN] at he ⊢
    split at he
    · rename_i st1 hx
      rw [exec_mono h ih c hx]
      exact ih _ _ _ he
    · rename_i hx
      cases hq : exec P call (loopN P H call n) c (frzSt st (H (keyOf c))) with
      | none => rw [hq] at he; cases he
      | some q =>
        rw [exec_mono h ih c hq]
        rw [hq] at he
        split
        · rename_i st1 h1; cases h1; exact (hx st1 hq).elim
        · exact he

omit [Cst] in
theorem bodyE_mono (h : Le call call') (hl : Le lp lp') : Le (bodyE P call lp) (bodyE P call' lp') := by
  intro f xs r he
  unfold bodyE at he ⊢
  split at he
  · rename_i fn hf
    split at he
    · rename_i c hc
      split at he
      · rename_i hok
        rw [if_pos hok]
        split at he
        · rename_i st hx; rw [exec_mono h hl c hx]; exact he
        · rename_i st hx; rw [exec_mono h hl c hx]; exact he
        · cases he
      · cases he
    · cases he
  · cases he

/-! ### bounded runs -/
/-- Answers that are known from elsewhere (contracts of Go's library). -/
class Prim where
  ans : Call'
  /-- Slots whose rows are read as data that stays whenever a loop begins a round; by the loop's number. -/
  hint : Nat → List Nat
variable [Prim]
def orElseE (c c' : Call') : Call' := fun f xs => match c f xs with
  | some r => some r
  | none => c' f xs
omit [Cst] [Prim] in
theorem orElseE_mono {p c c' : Call'} (h : Le c c') : Le (orElseE p c) (orElseE p c') := by
  intro f xs r he
  unfold orElseE at he ⊢
  split at he
  · exact he
  · exact h _ _ _ he
def runN (P : Program) : Nat → Call'
  | 0 => fun _ _ => none
  | n + 1 => orElseE Prim.ans (bodyE P (runN P n) (loopN P Prim.hint (runN P n) n))
def lpN (P : Program) (n : Nat) : Loop' := loopN P Prim.hint (runN P n) n

omit [Cst] in
theorem runN_step : ∀ n, Le (runN P n) (runN P (n + 1))
  | 0 => fun _ _ _ he => by simp [runN] at he
  | n + 1 => orElseE_mono (bodyE_mono (runN_step n) (loopN_mono (runN_step n) n))
omit [Cst] in
theorem lpN_step (n : Nat) : Le (lpN P n) (lpN P (n + 1)) := loopN_mono (runN_step n) n

omit [Cst] in
theorem runN_le {n m : Nat} (h : n ≤ m) : Le (runN P n) (runN P m) := by
  induction h with
  | refl => exact fun _ _ _ h => h
  | step _ ih => exact fun f xs r he => runN_step _ _ _ _ (ih f xs r he)
omit [Cst] in
theorem lpN_le {n m : Nat} (h : n ≤ m) : Le (lpN P n) (lpN P m) := by
  induction h with
  | refl => exact fun _ _ _ h => h
  | step _ ih => exact fun f xs r he => lpN_step _ _ _ _ (ih f xs r he)

/-- The limit of a row of answers. -/
noncomputable def lim {γ : Type} (s : Nat → Option γ) : Option γ := open Classical in if h : ∃ n, (s n).isSome then s h.choose else none
omit [Cst] [Prim] in
theorem lim_some {γ : Type} {s : Nat → Option γ} {r : γ} (h : lim s = some r) : ∃ n, s n = some r := by
  unfold lim at h
  split at h
  · exact ⟨_, h⟩
  · cases h
omit [Cst] [Prim] in
theorem lim_of {γ : Type} {s : Nat → Option γ} (hm : ∀ n m r, n ≤ m → s n = some r → s m = some r) {n : Nat} {r : γ} (h : s n = some r) : lim s = some r := by
  have hex : ∃ n, (s n).isSome := ⟨n, by rw [h]; rfl⟩
  unfold lim
  rw [dif_pos hex]
  obtain ⟨q, hq⟩ := Option.isSome_iff_exists.1 hex.choose_spec
  have h1 := hm _ (max n hex.choose) _ (Nat.le_max_right _ _) hq
  have h2 := hm _ (max n hex.choose) _ (Nat.le_max_left _ _) h
  rw [hq, ← h1, h2]

/-- What a function answers, by its body. -/
noncomputable def run (P : Program) : Call' := fun f xs => lim fun n => runN P n f xs
/-- What a loop comes to, by its body. -/
noncomputable def loop (P : Program) : Loop' := fun c st => lim fun n => lpN P n c st

omit [Cst] in
theorem run_lim {f : FuncId} {xs : List AV} {r : AV × List AOb} (h : run P f xs = some r) : ∃ n, runN P n f xs = some r := lim_some h
omit [Cst] in
theorem run_intro {n : Nat} {f : FuncId} {xs : List AV} {r : AV × List AOb} (h : runN P n f xs = some r) : run P f xs = some r :=
  lim_of (s := fun n => runN P n f xs) (fun _ _ _ hnm => runN_le hnm _ _ _) h
omit [Cst] in
theorem loop_lim {c : Code} {st : St} {r : Ex × St} (h : loop P c st = some r) : ∃ n, lpN P n c st = some r := lim_some h
omit [Cst] in
theorem loop_intro {n : Nat} {c : Code} {st : St} {r : Ex × St} (h : lpN P n c st = some r) : loop P c st = some r :=
  lim_of (s := fun n => lpN P n c st) (fun _ _ _ hnm => lpN_le hnm _ _ _) h

/-! ### what is got with the limits is got at some bound -/
omit [Cst] in
theorem callE_cont {o : Obs} {d : Option Nat} {f : FuncId} {args : List AV} {e : Eff} (he : callE (run P) o d f args = some e) : ∃ n, callE (runN P n) o d f args = some e := by
  unfold callE at he
  split at he
  · cases he
  · rename_i xs hx
    cases hc : run P f xs with
    | none => rw [hc] at he; cases he
    | some r =>
      obtain ⟨n, hn⟩ := run_lim hc
      refine ⟨n, ?_⟩
      unfold callE
      rw [hx]; dsimp only
      rw [hn]; rw [hc] at he; exact he

omit [Cst] in
theorem opE_cont {s : Nat → AV} {o : Obs} {op : Oper} {e : Eff} (he : opE P (run P) s o op = some e) : ∃ n, opE P (runN P n) s o op = some e := by
  unfold opE at he ⊢
  split at he <;> try exact ⟨0, he⟩
  rename_i c ho
  obtain ⟨callee, args, ts⟩ := c
  dsimp only at he ⊢
  split at he <;> try exact ⟨0, he⟩
  split at he
  · exact callE_cont he
  · cases he

omit [Cst] in
theorem stepE_cont {ops : Array Oper} {st : St} {o : Oper} {e : Eff} (he : stepE P (run P) ops st o = some e) : ∃ n, stepE P (runN P n) ops st o = some e := by
  unfold stepE at he ⊢
  split at he
  · exact opE_cont he
  · exact ⟨0, he⟩
  · cases he

omit [Cst] in
theorem runE_cont {ops : Array Oper} : ∀ {os : List Oper} {st st' : St}, runE P (run P) ops os st = some st' → ∃ n, runE P (runN P n) ops os st = some st'
  | [], _, _, he => ⟨0, he⟩
  | o :: os, st, st', he => by
    simp only [runE] at he ⊢
    split at he
    · rename_i e hs
      obtain ⟨n, hn⟩ := stepE_cont hs
      obtain ⟨m, hm⟩ := runE_cont he
      refine ⟨max n m, ?_⟩
      rw [stepE_mono (runN_le (Nat.le_max_left n m)) hn]
      exact runE_mono (runN_le (Nat.le_max_right n m)) hm
    · cases he

omit [Cst] in
theorem runD_cont {ops : Array Oper} : ∀ {os : List Oper} {rs : List Rc} {st st' : St}, runD P (run P) ops rs os st = some st' → ∃ n, runD P (runN P n) ops rs os st = some st'
  | [], _, _, _, he => ⟨0, he⟩
  | o :: os, rs, st, st', he => by
    simp only [runD] at he ⊢
    split at he
    · rename_i e hs
      split at he
      · rename_i hok
        obtain ⟨n, hn⟩ := stepE_cont hs
        obtain ⟨m, hm⟩ := runD_cont he
        refine ⟨max n m, ?_⟩
        rw [stepE_mono (runN_le (Nat.le_max_left n m)) hn]
        simp only [if_pos hok]
        exact runD_mono (runN_le (Nat.le_max_right n m)) hm
      · cases he
    · cases he

omit [Cst] in
theorem exec_cont : ∀ (c : Code) {st : St} {r : Ex × St}, exec P (run P) (loop P) c st = some r → ∃ n, exec P (runN P n) (lpN P n) c st = some r := by
  intro c
  induction c with
  | region id ops draw =>
    intro st r he
    simp only [exec] at he ⊢
    simp only [Option.map_eq_some_iff] at he
    obtain ⟨st1, h1, rfl⟩ := he
    cases draw with
    | true =>
      obtain ⟨n, hn⟩ := runD_cont h1
      exact ⟨n, by simp only [if_true, hn, Option.map_some]⟩
    | false =>
      obtain ⟨n, hn⟩ := runE_cont h1
      exact ⟨n, by simp only [Bool.false_eq_true, if_false, hn, Option.map_some]⟩
  | seq x y ihx ihy =>
    intro st r he
    simp only [exec] at he ⊢
    cases hx : exec P (run P) (loop P) x st with
    | none => rw [hx] at he; simp [seqE] at he
    | some q =>
      obtain ⟨n, hn⟩ := ihx hx
      rw [hx] at he
      unfold seqE at he
      split at he
      · rename_i st1 hq
        cases hq
        obtain ⟨m, hm⟩ := ihy he
        refine ⟨max n m, ?_⟩
        rw [exec_mono (runN_le (Nat.le_max_left n m)) (lpN_le (Nat.le_max_left n m)) x hn]
        exact exec_mono (runN_le (Nat.le_max_right n m)) (lpN_le (Nat.le_max_right n m)) y hm
      · rename_i hq
        refine ⟨n, ?_⟩
        rw [hn]
        unfold seqE
        split
        · rename_i st1 h1; cases h1; exact (hq st1 rfl).elim
        · exact he
  | cond c x y ihx ihy =>
    intro st r he
    simp only [exec] at he ⊢
    split at he
    · exact ihx he
    · exact ihy he
    · cases he
  | block id c ih =>
    intro st r he
    simp only [exec] at he ⊢
    cases hx : exec P (run P) (loop P) c st with
    | none => rw [hx] at he; simp [blockE] at he
    | some q =>
      obtain ⟨n, hn⟩ := ih hx
      exact ⟨n, by rw [hn]; rw [hx] at he; exact he⟩
  | loop c ih => intro st r he; simp only [exec] at he ⊢; exact loop_lim he
  | _ => intro st r he; exact ⟨0, by simpa only [exec] using he⟩

/-! ### the two rules -/
omit [Cst] in
theorem run_of {f : FuncId} {xs : List AV} {r : AV × List AOb} (hp : Prim.ans f xs = none) (h : bodyE P (run P) (loop P) f xs = some r) : run P f xs = some r := by
  unfold bodyE at h
  split at h
  · rename_i fn hf
    split at h
    · rename_i c hc
      split at h
      · rename_i hok
        have key : ∀ q, exec P (run P) (loop P) c (enterS xs []) = some q → (match (some q : Option (Ex × St)) with
            | some (.normal, st) => (ressE P st fn.results.toList).map fun rs => finishE st 0 (joinE rs)
            | some (.ret, st) => (ressE P st fn.results.toList).map fun rs => finishE st 0 (joinE rs)
            | _ => none) = some r → run P f xs = some r := by
          intro q hq hr
          obtain ⟨n, hn⟩ := exec_cont c hq
          refine run_intro (n := n + 1) ?_
          simp only [runN, orElseE, hp]
          unfold bodyE
          simp only [hf, hc]
          rw [if_pos hok]
          have hn' : exec P (runN P n) (loopN P Prim.hint (runN P n) n) c (enterS xs []) = some q := hn
          rw [hn']
          exact hr
        cases hq : exec P (run P) (loop P) c (enterS xs []) with
        | none => rw [hq] at h; cases h
        | some q => rw [hq] at h; exact key q hq h
      · cases h
    · cases h
  · cases h

omit [Cst] in
theorem loop_of {c : Code} {st : St} {r : Ex × St} (h : (match exec P (run P) (loop P) c (frzSt st (Prim.hint (keyOf c))) with | some (.normal, st') => loop P c st' | r => r) = some r) : loop P c st = some r := by
  cases hq : exec P (run P) (loop P) c (frzSt st (Prim.hint (keyOf c))) with
  | none => rw [hq] at h; cases h
  | some q =>
    obtain ⟨n, hn⟩ := exec_cont c hq
    rw [hq] at h
    split at h
    · rename_i st1 h1
      cases h1
      obtain ⟨m, hm⟩ := loop_lim h
      refine loop_intro (n := max n m + 1) ?_
      have e1 : exec P (runN P (max n m + 1)) (loopN P Prim.hint (runN P (max n m + 1)) (max n m)) c (frzSt st (Prim.hint (keyOf c))) = some (.normal, st1) := by
        refine exec_mono (runN_le (by omega)) ?_ c hn
        intro c' s' r' hr'
        have : lpN P (max n m) c' s' = some r' := lpN_le (Nat.le_max_left n m) _ _ _ hr'
        have h3 : Le (loopN P Prim.hint (runN P (max n m)) (max n m)) (loopN P Prim.hint (runN P (max n m + 1)) (max n m)) := loopN_le_call (runN_step _) _
        exact h3 _ _ _ this
      unfold lpN
      rw [loopN, e1]
      have h3 : Le (loopN P Prim.hint (runN P (max n m)) (max n m)) (loopN P Prim.hint (runN P (max n m + 1)) (max n m)) := loopN_le_call (runN_step _) _
      exact h3 _ _ _ (lpN_le (Nat.le_max_right n m) _ _ _ hm)
    · rename_i hne
      refine loop_intro (n := n + 1) ?_
      have h3 : Le (loopN P Prim.hint (runN P n) n) (loopN P Prim.hint (runN P (n + 1)) n) := loopN_le_call (runN_step _) _
      have e1 : exec P (runN P (n + 1)) (loopN P Prim.hint (runN P (n + 1)) n) c (frzSt st (Prim.hint (keyOf c))) = some q := exec_mono (runN_step n) h3 c hn
      unfold lpN
      rw [loopN, e1]
      split
      · rename_i st1 h1; cases h1; exact (hne st1 rfl).elim
      · exact h

omit [Cst] in
theorem loop_next {c : Code} {st st' : St} {r : Ex × St} (h : exec P (run P) (loop P) c (frzSt st (Prim.hint (keyOf c))) = some (.normal, st')) (h' : loop P c st' = some r) : loop P c st = some r :=
  loop_of (by rw [h]; exact h')
omit [Cst] in
theorem loop_exit {c : Code} {st st' : St} {i : Nat} (h : exec P (run P) (loop P) c (frzSt st (Prim.hint (keyOf c))) = some (.exit i, st')) : loop P c st = some (.exit i, st') :=
  loop_of (by rw [h])
omit [Cst] in
theorem loop_ret {c : Code} {st st' : St} (h : exec P (run P) (loop P) c (frzSt st (Prim.hint (keyOf c))) = some (.ret, st')) : loop P c st = some (.ret, st') :=
  loop_of (by rw [h])

omit [Cst] in
theorem run_prim {f : FuncId} {xs : List AV} {r : AV × List AOb} (h : Prim.ans f xs = some r) : run P f xs = some r :=
  run_intro (n := 1) (by simp only [runN, orElseE, h])

/-! ### what is computed is so -/
theorem runN_keeps (hm : P.follows .mixedOrders = true) (hp : Keeps P Prim.ans) : ∀ n, Keeps P (runN P n)
  | 0 => fun _ _ _ _ h => by simp [runN] at h
  | n + 1 => fun f xs r obs h => by
    have ih := runN_keeps hm hp n
    simp only [runN, orElseE] at h
    split at h
    · rename_i q hq; exact hp _ _ _ _ (hq.trans h)
    · exact body_ok ih (fun nt w0 N M0 => (rounds_ok (nt := nt) (w0 := w0) (N := N) (M0 := M0) hm ih n).1) h

theorem run_keeps (hm : P.follows .mixedOrders = true) (hp : Keeps P Prim.ans) : Keeps P (run P) := fun f xs r obs h => let ⟨n, hn⟩ := run_lim h; runN_keeps hm hp n f xs r obs hn
theorem run_con (hm : P.follows .mixedOrders = true) (hp : Keeps P Prim.ans) {f : FuncId} {xs : List AV} {r : AV} {obs : List AOb} (h : run P f xs = some (r, obs)) : Con P f xs [] r obs := (run_keeps hm hp f xs r obs h).2
end
end Go.AX

namespace Go.AX
open Go Go.RowKit
variable [Cst] [Prim]

def codeOf (fn : Func) : Code := fn.body.getD .skip
/-- What must be looked at once for each function. -/
def fnOk (P : Program) (fn : Func) : Bool := fn.name != "runtime.NumGoroutine" && fn.body.isSome && codeOk fn.ntmps (codeOf fn) && P.follows .mixedOrders

def outE' (P : Program) (fn : Func) : Option (Ex × St) → Option (AV × List AOb)
  | some (.normal, st) => (ressE P st fn.results.toList).map fun rs => finishE st 0 (joinE rs)
  | some (.ret, st) => (ressE P st fn.results.toList).map fun rs => finishE st 0 (joinE rs)
  | _ => none
noncomputable def evalF (P : Program) (fn : Func) (xs : List AV) : Option (AV × List AOb) := outE' P fn (exec P (run P) (loop P) (codeOf fn) (enterS xs []))

omit [Cst] in
theorem run_eq {P : Program} {f : FuncId} {fn : Func} {xs : List AV} {r : AV × List AOb} (hf : P.funcs[f]? = some fn) (hok : fnOk P fn = true) (hn : xs.length ≤ fn.ntmps) (hp : Prim.ans f xs = none)
    (he : evalF P fn xs = some r) : run P f xs = some r := by
  refine run_of hp ?_
  simp only [fnOk, Bool.and_eq_true, bne_iff_ne, ne_eq] at hok
  obtain ⟨⟨⟨h1, h2⟩, h3⟩, h4⟩ := hok
  obtain ⟨c, hc⟩ := Option.isSome_iff_exists.1 h2
  have hco : codeOf fn = c := by simp [codeOf, hc]
  rw [hco] at h3
  unfold evalF at he
  rw [hco] at he
  unfold bodyE
  simp only [hf, hc]
  rw [if_pos ⟨h1, h3, hn, h4⟩]
  unfold outE' at he
  exact he

/-! ### where it comes to -/
def To (x : Option (Ex × St)) (Φ : Ex → St → Prop) : Prop := ∃ ex st, x = some (ex, st) ∧ Φ ex st

omit [Cst] [Prim] in
theorem To_some {ex : Ex} {st : St} {Φ : Ex → St → Prop} : To (some (ex, st)) Φ ↔ Φ ex st := by
  constructor
  · rintro ⟨e, s, h, hp⟩; cases h; exact hp
  · exact fun h => ⟨ex, st, rfl, h⟩
omit [Cst] [Prim] in
theorem To_seqE {k : St → Option (Ex × St)} {x : Option (Ex × St)} {Φ : Ex → St → Prop} : To (seqE k x) Φ ↔ To x (fun ex st => match ex with | .normal => To (k st) Φ | ex => Φ ex st) := by
  constructor
  · rintro ⟨e, s, h, hp⟩
    unfold seqE at h
    split at h
    · rename_i st; exact ⟨.normal, st, rfl, ⟨e, s, h, hp⟩⟩
    · rename_i hx
      refine ⟨e, s, h, ?_⟩
      cases e with
      | normal => exact (hx s h).elim
      | _ => exact hp
  · rintro ⟨e, s, rfl, hp⟩
    cases e with
    | normal => exact hp
    | exit i => exact ⟨_, _, rfl, hp⟩
    | ret => exact ⟨_, _, rfl, hp⟩
omit [Cst] [Prim] in
theorem To_blockE {id : Nat} {x : Option (Ex × St)} {Φ : Ex → St → Prop} : To (blockE id x) Φ ↔ To x (fun ex st => match ex with | .exit j => if j = id then Φ .normal st else Φ (.exit j) st | ex => Φ ex st) := by
  constructor
  · rintro ⟨e, s, h, hp⟩
    unfold blockE at h
    split at h
    · rename_i j st
      refine ⟨.exit j, st, rfl, ?_⟩
      by_cases hj : j = id
      · rw [if_pos hj] at h; cases h; simp only [hj, if_true]; exact hp
      · rw [if_neg hj] at h; cases h; simp only [hj, if_false]; exact hp
    · rename_i hx
      refine ⟨e, s, h, ?_⟩
      cases e with
      | exit j => exact (hx j s h).elim
      | _ => exact hp
  · rintro ⟨e, s, rfl, hp⟩
    cases e with
    | normal => exact ⟨_, _, rfl, hp⟩
    | ret => exact ⟨_, _, rfl, hp⟩
    | exit j =>
      simp only [blockE]
      by_cases hj : j = id
      · simp only [hj, if_true] at hp ⊢; exact ⟨_, _, rfl, hp⟩
      · simp only [hj, if_false] at hp ⊢; exact ⟨_, _, rfl, hp⟩
omit [Cst] [Prim] in
theorem To.mono {x : Option (Ex × St)} {Φ Ψ : Ex → St → Prop} (h : To x Φ) (hp : ∀ ex st, Φ ex st → Ψ ex st) : To x Ψ :=
  let ⟨ex, st, e, p⟩ := h; ⟨ex, st, e, hp _ _ p⟩

omit [Cst] in
theorem loop_to {P : Program} {c c' : Code} {st : St} {Φ : Ex → St → Prop} (hc : c = c') (h : To (exec P (run P) (loop P) c' (frzSt st (Prim.hint (keyOf c)))) (fun ex st' => match ex with | .normal => To (loop P c st') Φ | ex => Φ ex st')) : To (loop P c st) Φ := by
  subst hc
  obtain ⟨ex, st', e, hp⟩ := h
  cases ex with
  | normal => obtain ⟨ex, st2, e2, hp⟩ := hp; exact ⟨ex, st2, loop_next e e2, hp⟩
  | exit i => exact ⟨_, _, loop_exit e, hp⟩
  | ret => exact ⟨_, _, loop_ret e, hp⟩

omit [Cst] in
theorem run_to {P : Program} {f : FuncId} {fn : Func} {xs : List AV} {r : AV × List AOb} (hf : P.funcs[f]? = some fn) (hok : fnOk P fn = true) (hn : xs.length ≤ fn.ntmps) (hp : Prim.ans f xs = none)
    (he : To (exec P (run P) (loop P) (codeOf fn) (enterS xs [])) (fun ex st => outE' P fn (some (ex, st)) = some r)) : run P f xs = some r := by
  obtain ⟨ex, st, e, h⟩ := he
  exact run_eq hf hok hn hp (by unfold evalF; rw [e]; exact h)

/-- The loops of some code, in the order of the text, inner ones behind outer ones. -/
def loopsOf : Code → List Code
  | .seq a b => loopsOf a ++ loopsOf b
  | .cond _ a b => loopsOf a ++ loopsOf b
  | .block _ c => loopsOf c
  | .loop c => c :: loopsOf c
  | _ => []
def loopAt (fn : Func) (i : Nat) : Code := (loopsOf (codeOf fn)).getD i .skip
end Go.AX

namespace Go.AX
open Go Go.RowKit Go.ChangeShapes
variable [Cst]

/-- Trees that a value of a plain type may stand for. -/
def HasT (P : Program) : Nat → TypeId → List T → Prop
  | 0, _, _ => False
  | n + 1, t, ts => match P.underlying t with
    | some .bool => ∃ b, ts = [.bool b]
    | some (.int k) => ∃ m, ts = [.int k m] ∧ (Lit.int k m).wf = true
    | some .string => ∃ s, ts = [.str s] ∧ s.size ≤ maxLen
    | some (.slice e) => ts = [.nil] ∨ ts = [.em] ∨ ∃ m cs, ts = [.sl m cs] ∧ 0 < m ∧ m ≤ maxLen ∧ cs.length = m * P.cellsOf e ∧ ∀ i, i < m → HasT P n e ((cs.drop (i * P.cellsOf e)).take (P.cellsOf e))
    | some (.struct fs) => ts.length = P.cellsOf t ∧ ∀ f ∈ fs.toList, HasT P n f.type ((ts.drop f.offset).take (P.cellsOf f.type))
    | _ => False

def contig (P : Program) : Nat → List Field → Nat → Bool
  | o, [], tot => o == tot
  | o, f :: fs, tot => f.offset == o && contig P (o + P.cellsOf f.type) fs tot

/-- A plain type; its slices' elements have cells; a struct's fields lie one behind the other. -/
def plainTy (P : Program) : Nat → TypeId → Bool
  | 0, _ => false
  | n + 1, t => match P.underlying t with
    | some .bool => true
    | some (.int _) => true
    | some .string => true
    | some (.slice e) => plainTy P n e && decide (0 < P.cellsOf e)
    | some (.struct fs) => (fs.toList.all fun f => plainTy P n f.type) && contig P 0 fs.toList (P.cellsOf t)
    | _ => false

section
variable {H : Type} {enc : TypeId × Value → H} {P : Program} {w : World} {spare : Nat → Bool} {held : Bool}
abbrev No : Nat → Prop := fun _ => False

omit [Cst] in
theorem cells_list {base : Nat} {a : Addr} {n : Nat} {cs : List Value} (h : w.cells? base a n = some cs) : cs.length = n ∧ ∀ j v, cs[j]? = some v → w.cell? (a.add j) = some v := by
  unfold World.cells? at h
  split at h
  · have hl := mapM_some_length h
    rw [List.length_range] at hl
    refine ⟨hl, fun j v hj => ?_⟩
    have hlt : j < n := by rw [← hl]; exact (List.getElem?_eq_some_iff.1 hj).1
    have := mapM_some_get h j j (by simp [hlt])
    rw [this]; exact hj
  · cases h

def cat (f : Nat → List T) : Nat → List T
  | 0 => []
  | n + 1 => cat f n ++ f n
omit [Cst] in
theorem cat_length {f : Nat → List T} {sz : Nat} : ∀ {n : Nat}, (∀ i, i < n → (f i).length = sz) → (cat f n).length = n * sz
  | 0, _ => by simp [cat]
  | n + 1, h => by
    simp only [cat, List.length_append]
    rw [cat_length (fun i hi => h i (by omega)), h n (by omega), Nat.succ_mul]
omit [Cst] in
theorem cat_at {f : Nat → List T} {sz : Nat} : ∀ {n : Nat}, (∀ i, i < n → (f i).length = sz) → ∀ i, i < n → ((cat f n).drop (i * sz)).take sz = f i
  | 0, _, i, hi => absurd hi (Nat.not_lt_zero _)
  | n + 1, h, i, hi => by
    have hl := cat_length (f := f) (sz := sz) (n := n) (fun i hi => h i (by omega))
    simp only [cat]
    by_cases hin : i = n
    · subst hin
      rw [List.drop_append_of_le_length (by omega), List.drop_of_length_le (by omega), List.nil_append, List.take_of_length_le (by rw [h i hi]; exact Nat.le_refl _)]
    · have hlt : i < n := by omega
      have h1 : (i + 1) * sz ≤ n * sz := Nat.mul_le_mul_right _ hlt
      rw [Nat.succ_mul] at h1
      rw [List.drop_append_of_le_length (by omega), List.take_append_of_le_length (by rw [List.length_drop]; omega)]
      exact cat_at (fun i hi => h i (by omega)) i hlt

omit [Cst] in
theorem trod_T : ∀ (n fuel : Nat) (t : TypeId) (cs : List Value) (x : DataW H × List MemPlace), plainTy P n t = true → DataW.trod enc P w 0 spare held fuel t cs = some x → ∃ ts, TL w No ts cs ∧ HasT P n t ts
  | 0, _, _, _, _, hp, _ => by simp [plainTy] at hp
  | n + 1, fuel, t, cs, x, hp, h => by
    unfold plainTy at hp
    unfold HasT
    split at hp
    · rename_i ht
      obtain ⟨b, rfl, _⟩ := DataW.trod_bool ht h
      exact ⟨[.bool b], ⟨_, _, rfl, by simp [TR], rfl⟩, b, rfl⟩
    · rename_i k ht
      obtain ⟨m, rfl, _, hw⟩ := DataW.trod_int ht h
      exact ⟨[.int k m], ⟨_, _, rfl, by simp [TR], rfl⟩, m, rfl, hw⟩
    · rename_i ht
      obtain ⟨s, rfl, _, hs⟩ := DataW.trod_string ht h
      exact ⟨[.str s], ⟨_, _, rfl, by simp [TR], rfl⟩, s, rfl, hs⟩
    · rename_i e ht
      simp only [Bool.and_eq_true, decide_eq_true_eq] at hp
      rcases DataW.trod_slice ht h with ⟨rfl, _⟩ | ⟨a, len, cap, elems, rest, n', rfl, rfl, _, _, h1, h2, h3, h4, _⟩
      · exact ⟨[.nil], ⟨_, _, rfl, by simp [TR], rfl⟩, .inl rfl⟩
      · by_cases h0 : len = 0
        · subst h0
          exact ⟨[.em], ⟨_, _, rfl, by simp only [TR]; exact ⟨some a, cap, rfl, h2, by simp⟩, rfl⟩, .inr (.inl rfl)⟩
        · have hel : ∀ i, ∃ ts, i < len → ∃ cs', w.cells? 0 (a.add (i * P.cellsOf e)) (P.cellsOf e) = some cs' ∧ TL w No ts cs' ∧ HasT P n e ts := by
            intro i
            by_cases hi : i < len
            · have := h4 i hi
              rw [List.getElem?_eq_getElem (by omega), Option.bind_eq_some_iff] at this
              obtain ⟨cs', hc, ht'⟩ := this
              obtain ⟨ts, h5, h6⟩ := trod_T n n' e cs' _ hp.1 ht'
              exact ⟨ts, fun _ => ⟨cs', hc, h5, h6⟩⟩
            · exact ⟨[], fun h => absurd h hi⟩
          obtain ⟨f, hf⟩ := Classical.axiomOfChoice hel
          have hlen : ∀ i, i < len → (f i).length = P.cellsOf e := by
            intro i hi
            obtain ⟨cs', hc, h5, _⟩ := hf i hi
            rw [← TL_length h5]; exact (cells_list hc).1
          have hcell : ∀ i r y, i < len → (f i)[r]? = some y → ∃ v, w.cell? (a.add (i * P.cellsOf e + r)) = some v ∧ TR w No y v := by
            intro i r y hi hr
            obtain ⟨cs', hc, h5, _⟩ := hf i hi
            obtain ⟨v, h7, h8⟩ := TL_get h5 hr
            have := (cells_list hc).2 r v h7
            rw [Addr.add_add] at this
            exact ⟨v, this, h8⟩
          have hblk : a.block < w.heap.size := by
            have hl0 := hlen 0 (by omega)
            obtain ⟨y, hy⟩ : ∃ y, (f 0)[0]? = some y := ⟨(f 0)[0]'(by omega), List.getElem?_eq_getElem (by omega)⟩
            obtain ⟨v, hv, _⟩ := hcell 0 0 y (by omega) hy
            have := lt_of_cell hv
            rwa [add_block] at this
          have hL := cat_length hlen
          refine ⟨[.sl len (cat f len)], ⟨_, _, rfl, ?_, rfl⟩, .inr (.inr ⟨len, cat f len, rfl, by omega, by omega, hL, fun i hi => by rw [cat_at hlen i hi]; obtain ⟨_, _, _, h6⟩ := hf i hi; exact h6⟩)⟩
          simp only [TR]
          refine ⟨a, cap, rfl, h1, h2, fun h => h, hblk, TRs_of (fun j y hj => ?_)⟩
          rw [Nat.zero_add]
          have hjl : j < len * P.cellsOf e := by rw [← hL]; exact (List.getElem?_eq_some_iff.1 hj).1
          have hd : j / P.cellsOf e < len := Nat.div_lt_of_lt_mul (by rw [Nat.mul_comm]; exact hjl)
          have hm : j % P.cellsOf e < P.cellsOf e := Nat.mod_lt _ hp.2
          have hdm : j / P.cellsOf e * P.cellsOf e + j % P.cellsOf e = j := Nat.div_add_mod' j _
          have hy : (f (j / P.cellsOf e))[j % P.cellsOf e]? = some y := by
            rw [← cat_at hlen _ hd, List.getElem?_take_of_lt hm, List.getElem?_drop, hdm]; exact hj
          have := hcell _ _ y hd hy
          rwa [hdm] at this
    · rename_i fs ht
      simp only [Bool.and_eq_true] at hp
      obtain ⟨xs, n', rfl, _, hl, hxs, hf⟩ := DataW.trod_struct ht h
      have key : ∀ (l : List Field) (o : Nat), (∀ f ∈ l, f ∈ fs.toList) → contig P o l (P.cellsOf t) = true → ∃ ts, TL w No ts (cs.drop o) ∧ ∀ f ∈ l, o ≤ f.offset ∧ HasT P n f.type ((ts.drop (f.offset - o)).take (P.cellsOf f.type)) := by
        intro l
        induction l with
        | nil =>
          intro o _ hc
          simp only [contig, beq_iff_eq] at hc
          refine ⟨[], ?_, by simp⟩
          simp only [TL]
          rw [List.drop_of_length_le (by omega)]
        | cons f l ih =>
          intro o hmem hc
          simp only [contig, Bool.and_eq_true, beq_iff_eq] at hc
          obtain ⟨ts', h1, h2⟩ := ih (o + P.cellsOf f.type) (fun g hg => hmem g (by simp [hg])) hc.2
          obtain ⟨i, hi⟩ := List.getElem?_of_mem (hmem f (by simp))
          have h3 := hf i f (by simpa using hi)
          have hil : i < xs.length := by rw [hxs]; have := (List.getElem?_eq_some_iff.1 hi).1; simpa using this
          rw [List.getElem?_eq_getElem hil] at h3
          obtain ⟨ts, h4, h5⟩ := trod_T n n' f.type _ _ (List.all_eq_true.1 hp.1 f (hmem f (by simp))) h3
          rw [hc.1] at h4
          have hbnd : ∀ (l : List Field) (o : Nat), contig P o l (P.cellsOf t) = true → o ≤ P.cellsOf t := by
            intro l
            induction l with
            | nil => intro o h; simp only [contig, beq_iff_eq] at h; omega
            | cons g l ih2 => intro o h; simp only [contig, Bool.and_eq_true, beq_iff_eq] at h; have := ih2 _ h.2; omega
          have hle := hbnd l _ hc.2
          have htl : ts.length = P.cellsOf f.type := by
            rw [← TL_length h4, List.length_take, List.length_drop, hl]; omega
          refine ⟨ts ++ ts', ?_, fun g hg => ?_⟩
          · have e : cs.drop o = (cs.drop o).take (P.cellsOf f.type) ++ cs.drop (o + P.cellsOf f.type) := by
              rw [← List.drop_drop, List.take_append_drop]
            rw [e]
            exact TL_append h4 h1
          · simp only [List.mem_cons] at hg
            rcases hg with rfl | hg
            · refine ⟨by omega, ?_⟩
              rw [hc.1, Nat.sub_self, List.drop_zero, List.take_append_of_le_length (by omega), List.take_of_length_le (by omega)]
              exact h5
            · obtain ⟨h6, h7⟩ := h2 g hg
              refine ⟨by omega, ?_⟩
              have e2 : (ts ++ ts').drop (g.offset - o) = ts'.drop (g.offset - (o + P.cellsOf f.type)) := by
                rw [List.drop_append, List.drop_of_length_le (by omega), List.nil_append, htl]
                congr 1; omega
              rw [e2]; exact h7
      obtain ⟨ts, h1, h2⟩ := key fs.toList 0 (fun _ h => h) hp.2
      rw [List.drop_zero] at h1
      refine ⟨ts, h1, by rw [← TL_length h1]; exact hl, fun f hf' => ?_⟩
      have := (h2 f hf').2
      rwa [Nat.sub_zero] at this
    · cases hp

/-! ### one argument -/
def argAV (P : Program) (t : TypeId) (ts : List T) : AV :=
  match P.underlying t with
  | some (.struct _) => .agg (ts.map .t)
  | _ => match ts with
    | [x] => .t x
    | _ => .undef

omit [Cst] in
theorem arg_ok {E : Emb} {r : Reach} {base n : Nat} {t : TypeId} {v : Value} {d : DataW H} {ps : List MemPlace} (hp : plainTy P n t = true) (hval : Value.okWide P w r base t v) (h : DataW.Trod enc P w 0 spare held t v d ps) :
    ∃ ts, HasT P n t ts ∧ AVR E (hO []) w No (argAV P t ts) v := by
  obtain ⟨fuel, hf⟩ := h
  obtain ⟨ts, h1, h2⟩ := trod_T n fuel t _ _ hp hf
  refine ⟨ts, h2, ?_⟩
  unfold argAV
  unfold Value.okWide at hval
  split
  · rename_i fs ht
    rw [ht] at hval
    obtain ⟨cs, rfl, _, _⟩ := hval
    simp only [AVR]
    exact ⟨cs.toList, by simp, TL_AVRs h1⟩
  · rename_i hns
    have hcell : Cell.okWide P w r base t v := by
      revert hval
      cases n with
      | zero => simp [plainTy] at hp
      | succ n =>
        unfold plainTy at hp
        split at hp <;> rename_i ht <;> first | (rw [ht]; exact fun h => h) | (exact absurd ht (hns _)) | (simp at hp)
    have hv : v.cells = #[v] := by
      cases v with
      | agg cs =>
        exfalso
        cases n with
        | zero => simp [plainTy] at hp
        | succ n =>
          unfold plainTy at hp
          unfold Cell.okWide at hcell
          split at hp <;> rename_i ht <;> first | (simp [ht, Cell.ok] at hcell; done) | (exact absurd ht (hns _)) | (simp at hp; done)
      | _ => rfl
    rw [hv] at h1
    cases ts with
    | nil => simp [TL] at h1
    | cons x ts =>
      simp only [TL, List.cons.injEq] at h1
      obtain ⟨u, vs', ⟨rfl, rfl⟩, h3, h4⟩ := h1
      cases ts with
      | nil => simpa only [AVR] using h3
      | cons y ys => simp [TL] at h4

/-- What a law's run gives. -/
theorem law_below [Prim] (hm : P.follows .mixedOrders = true) (hk : Keeps P Prim.ans) {f : FuncId} {xs : List AV} {vs : List Value} {E : Emb} (hr : run P f xs = some (.t (.bool true), []))
    (hK : ∀ g c, Cst.K g = some c → w.heap[g]? = some c) (hargs : AVRs E (hO []) w No xs vs) :
    Calls P f vs.toArray w fun e w' => e = .returned (.bool true) ∧ Below w.heap.size w w' := by
  have hOw : ∀ b, ¬ Mu No E (hO []) b := by
    rintro b (h | ⟨i, h, _⟩)
    · exact h
    · simp [hO, AOb.live] at h
  have ha : AVRs E (hO []) w (Mu No E (hO [])) xs vs := AVRs_keep (Ext.refl _ _) ⟨Nat.le_refl _, fun _ _ _ => rfl, fun b _ hb => (hOw b hb).elim⟩ _ _ hargs
  refine (run_con hm hk hr No No w E vs ⟨fun j => trivial, fun i j g h1 => by simp [hO, AOb.live] at h1, fun i g h1 => by simp [hO, AOb.isDead] at h1, fun b hb => hb.elim, fun g c hg => ⟨hK g c hg, fun h => h⟩⟩ ha).mono ?_
  rintro e w' ⟨v, E', rfl, hres⟩
  have hv := hres.val
  simp only [AVR, TR] at hv
  subst hv
  exact ⟨rfl, ⟨hres.fr.os, hres.fr.tape, hres.fr.output, hres.fr.size, fun k hk => hres.fr.block k hk (fun h => h)⟩⟩
end
end Go.AX

namespace Go.AX
open Go Go.RowKit
variable [Cst]

section
variable {P : Program} {f : FuncId} {xs : List AV}

/-- A contract whose result is flat and whose world has grown at its end alone. -/
theorem con_flat {x : T} (hx : flatT x = true) (h : ∀ (M : Nat → Prop) (E : Emb) (w : World) (vs : List Value), (∀ g c, Cst.K g = some c → w.heap[g]? = some c) → AVRs E (hO []) w M xs vs →
    Calls P f vs.toArray w fun e w' => ∃ v, e = .returned v ∧ TR w' M x v ∧ Below w.heap.size w w') : Con P f xs [] (.t x) [] := by
  intro N M0 w E vs hr hv
  refine (h _ E w vs (fun g c hg => (hr.kb g c hg).1) hv).mono ?_
  rintro e w' ⟨v, rfl, hv', hb⟩
  refine ⟨v, E, rfl, ⟨hb.os, hb.tape, hb.output, hb.size, fun b hb' _ => hb.block b hb'⟩, fun j hj => absurd hj (Nat.not_lt_zero _), fun j => trivial, fun i j g h1 => by simp [hO, AOb.live] at h1, fun i g h1 => by simp [hO, AOb.isDead] at h1, ?_, Nat.le_refl _⟩
  simp only [AVR]
  exact TR_flat hx hv'

def strsT : List T → Option (List ByteArray)
  | [] => some []
  | .str s :: cs => (strsT cs).map fun l => s :: l
  | _ => none
omit [Cst] in
theorem strsT_map : ∀ {cs : List T} {l : List ByteArray}, strsT cs = some l → cs = l.map T.str
  | [], l, h => by simp [strsT] at h; subst h; rfl
  | c :: cs, l, h => by
    unfold strsT at h
    split at h
    · rename_i hh; cases hh
    · rename_i s cs' hh
      cases hh
      simp only [Option.map_eq_some_iff] at h
      obtain ⟨l', hl, rfl⟩ := h
      rw [strsT_map hl]; rfl
    · cases h

def joinB (l : List ByteArray) (sep : ByteArray) : ByteArray := ⟨(Lib.join (l.map (·.data.toList)) sep.data.toList).toArray⟩
def joinAns : List AV → Option (AV × List AOb)
  | [.t (.sl n cs), .t (.str sep)] => match strsT cs with
    | some l => if l.length = n ∧ n ≤ 140737488355328 ∧ (Lib.join (l.map (·.data.toList)) sep.data.toList).length ≤ 140737488355328 then some (.t (.str (joinB l sep)), []) else none
    | none => none
  | _ => none
def itoaB (n : Int) : ByteArray := ⟨(Lib.itoa n).toArray⟩
def itoaAns : List AV → Option (AV × List AOb)
  | [.t (.int .i64 n), .t (.int .i64 b)] => if b = 10 ∧ -9223372036854775808 ≤ n ∧ n ≤ 9223372036854775807 then some (.t (.str (itoaB n)), []) else none
  | _ => none

omit [Cst] in
theorem cell_spot {w : World} {a : Addr} {v : Value} (h : w.cell? a = some v) : a.spot = none := by
  unfold World.cell? at h
  split at h
  · split at h
    · cases h
    · rename_i hs; simpa using hs
  · cases h

theorem join_con (h0 : ∀ (a : Option Addr) (c : Nat) (sep : ByteArray) (w : World), Calls P f #[.slice a 0 c, .string sep] w fun e w' => e = .returned (.string ⟨#[]⟩) ∧ w' = w)
    (h1 : ∀ (bk o c : Nat) (xs : List ByteArray) (sep : ByteArray) (w : World), (∀ (j : Nat) x, xs[j]? = some x → w.cell? ⟨bk, o + j, none⟩ = some (.string x)) → bk < w.heap.size → xs.length ≤ 140737488355328 → xs.length ≤ c →
      (Lib.join (xs.map (·.data.toList)) sep.data.toList).length ≤ 140737488355328 →
      Calls P f #[.slice (some ⟨bk, o, none⟩) xs.length c, .string sep] w fun e w' => e = .returned (.string ⟨(Lib.join (xs.map (·.data.toList)) sep.data.toList).toArray⟩) ∧ Below w.heap.size w w')
    {r : AV} {obs : List AOb} (h : joinAns xs = some (r, obs)) : Con P f xs [] r obs := by
  unfold joinAns at h
  split at h
  · rename_i n cs sep
    split at h
    · rename_i l hl
      split at h
      · rename_i hc
        obtain ⟨rfl, hn, hlen⟩ := hc
        simp only [Option.some.injEq, Prod.mk.injEq] at h
        obtain ⟨rfl, rfl⟩ := h
        have := strsT_map hl; subst this
        refine con_flat rfl (fun M E w vs _ hv => ?_)
        simp only [AVRs] at hv
        obtain ⟨v, vs1, rfl, hv1, v2, vs2, rfl, hv2, rfl⟩ := hv
        simp only [AVR, TR] at hv1 hv2
        subst hv2
        obtain ⟨ad, c, rfl, hnc, hcm, _, hlt, hcs⟩ := hv1
        cases l with
        | nil =>
          refine (h0 (some ad) c sep w).mono ?_
          rintro e w' ⟨rfl, rfl⟩
          exact ⟨_, rfl, by simp only [TR]; rfl, Below.refl _ _⟩
        | cons x l =>
          have hsp : ad.spot = none := by
            obtain ⟨u, hu, _⟩ := TRs_get hcs (j := 0) (x := .str x) rfl
            rw [Nat.zero_add] at hu
            have : ad.add 0 = ad := by simp [Addr.add]
            rw [this] at hu
            exact cell_spot hu
          obtain ⟨bk, o, sp⟩ := ad
          simp only at hsp; subst hsp
          refine (h1 bk o c (x :: l) sep w (fun j y hj => ?_) hlt hn hnc hlen).mono ?_
          · obtain ⟨u, hu, hu2⟩ := TRs_get hcs (j := j) (x := .str y) (by rw [List.getElem?_map, hj]; rfl)
            simp only [TR] at hu2; subst hu2
            rw [Nat.zero_add, add_lit] at hu
            exact hu
          · rintro e w' ⟨rfl, hb⟩
            exact ⟨_, rfl, by simp only [TR]; rfl, hb⟩
      · cases h
    · cases h
  · cases h

theorem itoa_con (h1 : ∀ (n : Int), -9223372036854775808 ≤ n → n ≤ 9223372036854775807 → ∀ (w : World), (∀ g c, Cst.K g = some c → w.heap[g]? = some c) →
      Calls P f #[.int .i64 n, .int .i64 10] w fun e w' => e = .returned (.string ⟨(Lib.itoa n).toArray⟩) ∧ ∃ k os, w' = Go.Sort.grow (w.drewN k) os)
    {r : AV} {obs : List AOb} (h : itoaAns xs = some (r, obs)) : Con P f xs [] r obs := by
  unfold itoaAns at h
  split at h
  · rename_i n b
    split at h
    · rename_i hc
      obtain ⟨rfl, ha, hb⟩ := hc
      simp only [Option.some.injEq, Prod.mk.injEq] at h
      obtain ⟨rfl, rfl⟩ := h
      refine con_flat rfl (fun M E w vs hk hv => ?_)
      simp only [AVRs] at hv
      obtain ⟨v, vs1, rfl, hv1, v2, vs2, rfl, hv2, rfl⟩ := hv
      simp only [AVR, TR] at hv1 hv2
      subst hv1; subst hv2
      refine (h1 n ha hb w hk).mono ?_
      rintro e w' ⟨rfl, k, os, rfl⟩
      refine ⟨_, rfl, by simp only [TR]; rfl, ⟨rfl, rfl, rfl, by simp [Go.Sort.grow, World.drewN], fun j hj => ?_⟩⟩
      simp only [Go.Sort.grow, World.drewN]
      rw [Array.getElem?_append_left hj]
    · cases h
  · cases h
end
end Go.AX

namespace Go.AX
open Go Go.RowKit
variable [Cst] [Prim]

/-! ### what comes behind -/
inductive Kt where
  | code (c : Code)
  | blk (id : Nat)

section
variable (P : Program) (Ψ : Ex → St → Prop)
/-- An exit on its way out. -/
def goX : List Kt → Ex → St → Prop
  | [], ex, st => Ψ ex st
  | .code c :: ks, .normal, st => To (exec P (run P) (loop P) c st) (goX ks)
  | .code _ :: ks, ex, st => goX ks ex st
  | .blk id :: ks, .exit j, st => if j = id then goX ks .normal st else goX ks (.exit j) st
  | .blk _ :: ks, ex, st => goX ks ex st
/-- Code, and what comes behind. -/
def goC (c : Code) (st : St) (ks : List Kt) : Prop := To (exec P (run P) (loop P) c st) (goX P Ψ ks)
def goR (x : Option St) (ks : List Kt) : Prop := match x with
  | some st => goX P Ψ ks .normal st
  | none => False
def goB (v : AV) (a b : Code) (st : St) (ks : List Kt) : Prop := match v with
  | .t (.bool true) => goC P Ψ a st ks
  | .t (.bool false) => goC P Ψ b st ks
  | _ => False
def goL (c : Code) (st : St) (ks : List Kt) : Prop := To (loop P c st) (goX P Ψ ks)
end

section
variable {P : Program} {Ψ : Ex → St → Prop} {st : St} {ks : List Kt}
omit [Cst] in
theorem goX_nil {ex : Ex} : goX P Ψ [] ex st = Ψ ex st := rfl
omit [Cst] in
theorem goX_code {c : Code} : goX P Ψ (.code c :: ks) .normal st = goC P Ψ c st ks := rfl
omit [Cst] in
theorem goX_code_exit {c : Code} {j : Nat} : goX P Ψ (.code c :: ks) (.exit j) st = goX P Ψ ks (.exit j) st := rfl
omit [Cst] in
theorem goX_code_ret {c : Code} : goX P Ψ (.code c :: ks) .ret st = goX P Ψ ks .ret st := rfl
omit [Cst] in
theorem goX_blk {id : Nat} : goX P Ψ (.blk id :: ks) .normal st = goX P Ψ ks .normal st := rfl
omit [Cst] in
theorem goX_blk_ret {id : Nat} : goX P Ψ (.blk id :: ks) .ret st = goX P Ψ ks .ret st := rfl
omit [Cst] in
theorem goX_blk_exit {id j : Nat} : goX P Ψ (.blk id :: ks) (.exit j) st = if j = id then goX P Ψ ks .normal st else goX P Ψ ks (.exit j) st := rfl
omit [Cst] in
theorem goR_some : goR P Ψ (some st) ks = goX P Ψ ks .normal st := rfl
omit [Cst] in
theorem goB_true {a b : Code} : goB P Ψ (.t (.bool true)) a b st ks = goC P Ψ a st ks := rfl
omit [Cst] in
theorem goB_false {a b : Code} : goB P Ψ (.t (.bool false)) a b st ks = goC P Ψ b st ks := rfl

omit [Cst] [Prim] in
theorem To_congr {x : Option (Ex × St)} {Φ Φ' : Ex → St → Prop} (h : ∀ ex st, Φ ex st ↔ Φ' ex st) : To x Φ ↔ To x Φ' :=
  ⟨fun ⟨ex, st, e, p⟩ => ⟨ex, st, e, (h ex st).1 p⟩, fun ⟨ex, st, e, p⟩ => ⟨ex, st, e, (h ex st).2 p⟩⟩

omit [Cst] in
theorem goC_seq {a b : Code} : goC P Ψ (.seq a b) st ks = goC P Ψ a st (.code b :: ks) := by
  unfold goC
  simp only [exec]
  exact propext (To_seqE.trans (To_congr fun ex st => by cases ex <;> exact Iff.rfl))
omit [Cst] in
theorem goC_block {id : Nat} {c : Code} : goC P Ψ (.block id c) st ks = goC P Ψ c st (.blk id :: ks) := by
  unfold goC
  simp only [exec]
  exact propext (To_blockE.trans (To_congr fun ex st => by cases ex <;> exact Iff.rfl))
omit [Cst] in
theorem goC_skip : goC P Ψ .skip st ks = goX P Ψ ks .normal st := by
  unfold goC; simp only [exec]; exact propext To_some
omit [Cst] in
theorem goC_exit {j : Nat} : goC P Ψ (.exit j) st ks = goX P Ψ ks (.exit j) st := by
  unfold goC; simp only [exec]; exact propext To_some
omit [Cst] in
theorem goC_ret : goC P Ψ .ret st ks = goX P Ψ ks .ret st := by
  unfold goC; simp only [exec]; exact propext To_some
omit [Cst] in
theorem goC_loop {c : Code} : goC P Ψ (.loop c) st ks = goL P Ψ c st ks := by
  unfold goC goL; simp only [exec]
omit [Cst] in
theorem goR_map {x : Option St} : To (x.map fun st => (Ex.normal, st)) (goX P Ψ ks) = goR P Ψ x ks := by
  cases x with
  | none => exact propext ⟨fun ⟨_, _, h, _⟩ => by simp at h, fun h => h.elim⟩
  | some st => exact propext To_some
omit [Cst] in
theorem goC_region {id : Nat} {ops : Array Oper} : goC P Ψ (.region id ops false) st ks = goR P Ψ (runE P (run P) ops ops.toList st) ks := by
  unfold goC; simp only [exec, Bool.false_eq_true, if_false]; exact goR_map
omit [Cst] in
theorem goC_draw {id : Nat} {ops : Array Oper} : goC P Ψ (.region id ops true) st ks = goR P Ψ (runD P (run P) ops [] ops.toList st) ks := by
  unfold goC; simp only [exec, if_true]; exact goR_map
omit [Cst] in
theorem goC_cond {c : Operand} {a b : Code} : goC P Ψ (.cond c a b) st ks = goB P Ψ (ev st.s c) a b st ks := by
  unfold goC goB
  simp only [exec]
  cases hv : ev st.s c with
  | t x =>
    cases x with
    | bool v => cases v <;> rfl
    | _ => exact propext ⟨fun ⟨_, _, h, _⟩ => (by cases h), fun h => h.elim⟩
  | _ => exact propext ⟨fun ⟨_, _, h, _⟩ => (by cases h), fun h => h.elim⟩

omit [Cst] in
theorem goL_of {c : Code} {Φ : Ex → St → Prop} (h : To (loop P c st) Φ) (hk : ∀ ex st', Φ ex st' → goX P Ψ ks ex st') : goL P Ψ c st ks := h.mono hk

/-- The end of a function. -/
def finF (P : Program) (fn : Func) (r : AV × List AOb) (ex : Ex) (st : St) : Prop := outE' P fn (some (ex, st)) = some r
def finK (fin : Option (List AV)) (st : St) : Option (AV × List AOb) := match fin with
  | some rs => some (finishE st 0 (joinE rs))
  | none => none
omit [Cst] [Prim] in
theorem finK_some {rs : List AV} : finK (some rs) st = some (finishE st 0 (joinE rs)) := rfl
omit [Cst] [Prim] in
theorem finF_ret {fn : Func} {r : AV × List AOb} : finF P fn r .ret st = (finK (ressE P st fn.results.toList) st = some r) := by
  unfold finF outE' finK; dsimp only; cases ressE P st fn.results.toList <;> rfl
omit [Cst] [Prim] in
theorem finF_normal {fn : Func} {r : AV × List AOb} : finF P fn r .normal st = (finK (ressE P st fn.results.toList) st = some r) := by
  unfold finF outE' finK; dsimp only; cases ressE P st fn.results.toList <;> rfl

omit [Cst] in
theorem run_go {f : FuncId} {fn : Func} {xs : List AV} {r : AV × List AOb} (hf : P.funcs[f]? = some fn) (hok : fnOk P fn = true) (hn : xs.length ≤ fn.ntmps) (hp : Prim.ans f xs = none)
    (h : goC P (finF P fn r) (codeOf fn) (enterS xs []) []) : run P f xs = some r := by
  refine run_to hf hok hn hp (h.mono fun ex st h => ?_)
  exact h

/-- A round of a loop. -/
def lpΨ (P : Program) (c : Code) (Φ : Ex → St → Prop) : Ex → St → Prop
  | .normal, st => To (loop P c st) Φ
  | ex, st => Φ ex st
omit [Cst] in
theorem lpΨ_normal {c : Code} {Φ : Ex → St → Prop} : lpΨ P c Φ .normal st = To (loop P c st) Φ := rfl
omit [Cst] in
theorem lpΨ_exit {c : Code} {Φ : Ex → St → Prop} {j : Nat} : lpΨ P c Φ (.exit j) st = Φ (.exit j) st := rfl
omit [Cst] in
theorem lpΨ_ret {c : Code} {Φ : Ex → St → Prop} : lpΨ P c Φ .ret st = Φ .ret st := rfl
omit [Cst] in
theorem loop_goF {c c' : Code} {Φ : Ex → St → Prop} (hc : c' = c) {ts : List Nat} (hh : Prim.hint (keyOf c') = ts) (h : goC P (lpΨ P c Φ) c' (frzSt st ts) []) : To (loop P c st) Φ := by
  subst hh
  refine loop_to hc.symm ?_
  rw [← hc] at h ⊢
  refine h.mono fun ex st h => ?_
  cases ex <;> exact h
omit [Cst] in
theorem loop_go {c c' : Code} {Φ : Ex → St → Prop} (hc : c' = c) (h : goC P (lpΨ P c Φ) c' st []) (hh : Prim.hint (keyOf c') = [] := by rfl) : To (loop P c st) Φ := loop_goF hc hh h
end

/-! ### regions, an operation at a time -/
section
variable {P : Program} {call : Call'} {ops : Array Oper} {st : St} {o : Oper} {os : List Oper}
def runK (P : Program) (call : Call') (ops : Array Oper) (os : List Oper) (st : St) (d : Option Nat) (x : Option Eff) : Option St := match x with
  | some e => runE P call ops os (st.app d e)
  | none => none
omit [Cst] [Prim] in
theorem runE_cons : runE P call ops (o :: os) st = runK P call ops os st o.dst (stepE P call ops st o) := rfl
omit [Cst] [Prim] in
theorem runE_nil : runE P call ops [] st = some st := rfl
omit [Cst] [Prim] in
theorem runK_some {d : Option Nat} {e : Eff} : runK P call ops os st d (some e) = runE P call ops os (st.app d e) := rfl
def runDK (P : Program) (call : Call') (ops : Array Oper) (rs : List Rc) (os : List Oper) (st : St) (o : Oper) (rd : List Nat) (x : Option Eff) : Option St := match x with
  | some e => if okE o ⟨o.dst, rd, idsW e⟩ 0 rs = true then runD P call ops (rs ++ [⟨o.dst, rd, idsW e⟩]) os (st.app o.dst e) else none
  | none => none
def runDQ (P : Program) (call : Call') (ops : Array Oper) (rs : List Rc) (os : List Oper) (st : St) (d : Option Nat) (e : Eff) (q : Rc) (b : Bool) : Option St := match b with
  | true => runD P call ops (rs ++ [q]) os (st.app d e)
  | false => none
omit [Cst] [Prim] in
theorem runD_cons {rs : List Rc} : runD P call ops rs (o :: os) st = runDK P call ops rs os st o (rdOp st.s o) (stepE P call ops st o) := rfl
omit [Cst] [Prim] in
theorem runD_nil {rs : List Rc} : runD P call ops rs [] st = some st := rfl
omit [Cst] [Prim] in
theorem runDK_some {rs : List Rc} {rd : List Nat} {e : Eff} : runDK P call ops rs os st o rd (some e) = runDQ P call ops rs os st o.dst e ⟨o.dst, rd, idsW e⟩ (okE o ⟨o.dst, rd, idsW e⟩ 0 rs) := by
  unfold runDK runDQ
  dsimp only
  cases hb : okE o ⟨o.dst, rd, idsW e⟩ 0 rs
  · rw [if_neg (by simp)]
  · rw [if_pos rfl]
omit [Cst] [Prim] in
theorem runDQ_true {rs : List Rc} {d : Option Nat} {e : Eff} {q : Rc} : runDQ P call ops rs os st d e q true = runD P call ops (rs ++ [q]) os (st.app d e) := rfl
def stepK (P : Program) (call : Call') (st : St) (o : Oper) (g : Option Bool) : Option Eff := match g with
  | some true => opE P call st.s st.o o
  | some false => some ⟨.non, []⟩
  | none => none
omit [Cst] [Prim] in
theorem stepE_eq : stepE P call ops st o = stepK P call st o (guardE ops st.s o) := rfl
omit [Cst] [Prim] in
theorem stepK_true : stepK P call st o (some true) = opE P call st.s st.o o := rfl
omit [Cst] [Prim] in
theorem stepK_false : stepK P call st o (some false) = some ⟨.non, []⟩ := rfl
def guardK (want : Bool) (v : AV) : Option Bool := match v with
  | .t (.bool b) => some (b == want)
  | .non => some false
  | _ => none
def guardJ (s : Nat → AV) (want : Bool) (d : Option Nat) : Option Bool := match d with
  | some d => guardK want (s d)
  | none => some false
def guardG (ops : Array Oper) (s : Nat → AV) (g : Option (Nat × Bool)) : Option Bool := match g with
  | none => some true
  | some (j, want) => guardJ s want ((ops[j]?).bind (·.dst))
omit [Cst] [Prim] in
theorem guardE_eq {s : Nat → AV} : guardE ops s o = guardG ops s o.guard := rfl
omit [Cst] [Prim] in
theorem guardG_none {s : Nat → AV} : guardG ops s none = some true := rfl
omit [Cst] [Prim] in
theorem guardG_some {s : Nat → AV} {j : Nat} {want : Bool} : guardG ops s (some (j, want)) = guardJ s want ((ops[j]?).bind (·.dst)) := rfl
omit [Cst] [Prim] in
theorem guardJ_some {s : Nat → AV} {want : Bool} {d : Nat} : guardJ s want (some d) = guardK want (s d) := rfl
omit [Cst] [Prim] in
theorem guardK_bool {want b : Bool} : guardK want (.t (.bool b)) = some (b == want) := rfl
omit [Cst] [Prim] in
theorem guardK_non {want : Bool} : guardK want .non = some false := rfl
end
end Go.AX

namespace Go.AX
open Go Go.RowKit

section
variable {P : Program} {o : Obs} {d : Option Nat} {t : TypeId}
def effV (x : Option AV) : Option Eff := match x with
  | some v => some ⟨v, []⟩
  | none => none
theorem effV_some {v : AV} : effV (some v) = some ⟨v, []⟩ := rfl

def cellsK (off : Nat) (b : Bool) (x : AOb) : Option (List AV) := match b, x with
  | true, .box _ cs => some (cs.drop off)
  | true, .row _ _ _ _ _ cs => some ((cs.drop off).map .t)
  | _, _ => none
theorem cellsAt_ptr {id ver off : Nat} : cellsAt o (.ptr id ver off) = cellsK off ((o id).1 == ver) (o id).2 := by
  unfold cellsAt cellsK
  dsimp only
  by_cases h : (o id).1 = ver
  · rw [if_pos h, h]; simp only [BEq.rfl]; cases (o id).2 <;> rfl
  · rw [if_neg h]
    have : ((o id).1 == ver) = false := by simpa using h
    rw [this]
theorem cellsAt_cp {cs : List T} : cellsAt o (.cp cs) = some (cs.map .t) := rfl
theorem cellsK_box {off : Nat} {bt : TypeId} {cs : List AV} : cellsK off true (.box bt cs) = some (cs.drop off) := rfl
theorem cellsK_row {off : Nat} {fz nn : Bool} {e : TypeId} {sz n : Nat} {cs : List T} : cellsK off true (.row fz nn e sz n cs) = some ((cs.drop off).map .t) := rfl
def loadK (i : Option TI) (cs : Option (List AV)) : Option Eff := match i, cs with
  | some i, some cs => effV (loadC i cs)
  | _, _ => none
theorem loadE_eq {a : AV} : loadE P o t a = loadK (ti P t) (cellsAt o a) := by
  unfold loadE loadK effV
  cases ti P t <;> cases cellsAt o a <;> try rfl
  rename_i i cs
  dsimp only
  cases loadC i cs <;> rfl
theorem loadK_some {i : TI} {cs : List AV} : loadK (some i) (some cs) = effV (loadC i cs) := rfl
theorem loadC_struct {fs : List (Nat × Nat × Nat)} {b : Bool} {sz by_ : Nat} {ze : Option (List T)} {cs : List AV} : loadC ⟨.struct fs b, sz, by_, ze⟩ cs = if sz ≤ cs.length then some (.agg (cs.take sz)) else none := rfl
theorem loadC_int {k : IntKind} {sz by_ : Nat} {ze : Option (List T)} {cs : List AV} : loadC ⟨.int k, sz, by_, ze⟩ cs = cs.head? := rfl
theorem loadC_bool {sz by_ : Nat} {ze : Option (List T)} {cs : List AV} : loadC ⟨.bool, sz, by_, ze⟩ cs = cs.head? := rfl
theorem loadC_str {sz by_ : Nat} {ze : Option (List T)} {cs : List AV} : loadC ⟨.str, sz, by_, ze⟩ cs = cs.head? := rfl
theorem loadC_slice {e : TypeId} {sz by_ : Nat} {ze : Option (List T)} {cs : List AV} : loadC ⟨.slice e, sz, by_, ze⟩ cs = cs.head? := rfl
theorem loadC_ptr {e : TypeId} {sz by_ : Nat} {ze : Option (List T)} {cs : List AV} : loadC ⟨.ptr e, sz, by_, ze⟩ cs = cs.head? := rfl
theorem loadC_map {k e : TypeId} {sz by_ : Nat} {ze : Option (List T)} {cs : List AV} : loadC ⟨.map k e, sz, by_, ze⟩ cs = cs.head? := rfl

def fieldK (o : Obs) (fo : Option (Nat × Nat × Nat)) (x : AV) : Option Eff := match fo, x with
  | some (off, sz, _), .ptr id ver b => if 0 < sz ∧ (o id).1 = ver then some ⟨.ptr id ver (b + off), []⟩ else none
  | some (off, sz, _), .cp cs => if 0 < sz ∧ off ≤ cs.length then some ⟨.cp (cs.drop off), []⟩ else none
  | _, _ => none
def fieldQ (o : Obs) (i : Option TI) (f : Nat) (x : AV) : Option Eff := match i with
  | some ⟨.struct fs _, _, _, _⟩ => fieldK o (fs[f]?) x
  | _ => none
theorem fieldAddrE_eq {x : AV} {f : Nat} : fieldAddrE P o t x f = fieldQ o (ti P t) f x := by
  unfold fieldAddrE fieldQ fieldK
  cases ti P t with
  | none => rfl
  | some i => obtain ⟨k, _, _, _⟩ := i; cases k <;> rfl
theorem fieldQ_some {fs : List (Nat × Nat × Nat)} {b : Bool} {sz by_ : Nat} {ze : Option (List T)} {x : AV} {f : Nat} : fieldQ o (some ⟨.struct fs b, sz, by_, ze⟩) f x = fieldK o (fs[f]?) x := rfl
theorem fieldK_ptr {off sz k id ver b : Nat} : fieldK o (some (off, sz, k)) (.ptr id ver b) = if 0 < sz ∧ (o id).1 = ver then some ⟨.ptr id ver (b + off), []⟩ else none := rfl
theorem fieldK_cp {off sz k : Nat} {cs : List T} : fieldK o (some (off, sz, k)) (.cp cs) = if 0 < sz ∧ off ≤ cs.length then some ⟨.cp (cs.drop off), []⟩ else none := rfl

def binK (x : Option AV) : Option Eff := match x with
  | some v => some ⟨v, []⟩
  | none => none
theorem map_eff {x : Option AV} : (x.map fun v => (⟨v, []⟩ : Eff)) = effV x := by cases x <;> rfl
def tK (x : Option T) : Option AV := match x with
  | some v => some (.t v)
  | none => none
theorem tK_some {x : T} : tK (some x) = some (.t x) := rfl
theorem binE_int {op : BinOp} {xt : TypeId} {k : IntKind} {a b : Int} : binE P o op xt (.t (.int k a)) (.t (.int k b)) = tK (intArithE op k a b) := by
  unfold binE tK
  dsimp only
  rw [if_pos (.inl rfl)]
  cases intArithE op k a b <;> rfl
def eqK (neg : Bool) (x : Option Bool) : Option AV := match x with
  | some b => some (.t (.bool (b != neg)))
  | none => none
theorem eqK_some {neg b : Bool} : eqK neg (some b) = some (.t (.bool (b != neg))) := rfl
theorem eqlK {x : Option Bool} : (x.map fun b => AV.t (.bool b)) = eqK false x := by cases x <;> simp [eqK]
theorem neqK {x : Option Bool} : (x.map fun b => AV.t (.bool !b)) = eqK true x := by cases x <;> simp [eqK]
theorem binE_eql_agg {xt : TypeId} {xs ys : List AV} : binE P o .eql xt (.agg xs) (.agg ys) = eqK false (eqE P o xt (.agg xs) (.agg ys)) := eqlK
theorem binE_neq_agg {xt : TypeId} {xs ys : List AV} : binE P o .neq xt (.agg xs) (.agg ys) = eqK true (eqE P o xt (.agg xs) (.agg ys)) := neqK
theorem binE_eql_bool {xt : TypeId} {a b : Bool} : binE P o .eql xt (.t (.bool a)) (.t (.bool b)) = eqK false (eqE P o xt (.t (.bool a)) (.t (.bool b))) := eqlK
theorem binE_neq_bool {xt : TypeId} {a b : Bool} : binE P o .neq xt (.t (.bool a)) (.t (.bool b)) = eqK true (eqE P o xt (.t (.bool a)) (.t (.bool b))) := neqK
theorem binE_eql_own {xt : TypeId} {id ver : Nat} {y : AV} : binE P o .eql xt (.own id ver) y = eqK false (eqE P o xt (.own id ver) y) := eqlK
theorem binE_neq_own {xt : TypeId} {id ver : Nat} {y : AV} : binE P o .neq xt (.own id ver) y = eqK true (eqE P o xt (.own id ver) y) := neqK
theorem binE_eql_nil {xt : TypeId} {y : AV} : binE P o .eql xt (.t .nil) y = eqK false (eqE P o xt (.t .nil) y) := eqlK
theorem binE_neq_nil {xt : TypeId} {y : AV} : binE P o .neq xt (.t .nil) y = eqK true (eqE P o xt (.t .nil) y) := neqK
theorem binE_eql_sl {xt : TypeId} {n : Nat} {cs : List T} {y : AV} : binE P o .eql xt (.t (.sl n cs)) y = eqK false (eqE P o xt (.t (.sl n cs)) y) := eqlK
theorem binE_neq_sl {xt : TypeId} {n : Nat} {cs : List T} {y : AV} : binE P o .neq xt (.t (.sl n cs)) y = eqK true (eqE P o xt (.t (.sl n cs)) y) := neqK
def andK (x y : Option Bool) : Option Bool := match x, y with
  | some a, some b => some (a && b)
  | _, _ => none
theorem andK_some {a b : Bool} : andK (some a) (some b) = some (a && b) := rfl
def fsK (x y : Option AV) (k : Nat) (r : Option Bool) : Option Bool := match x, y with
  | some (.t x), some (.t y) => andK (eqCell k x y) r
  | _, _ => none
theorem fsK_some {x y : T} {k : Nat} {r : Option Bool} : fsK (some (.t x)) (some (.t y)) k r = andK (eqCell k x y) r := rfl
theorem eqFs_nil {xs ys : List AV} : eqFs xs ys [] = some true := rfl
theorem eqFs_cons {xs ys : List AV} {off sz k : Nat} {fs : List (Nat × Nat × Nat)} : eqFs xs ys ((off, sz, k) :: fs) = fsK (xs[off]?) (ys[off]?) k (eqFs xs ys fs) := by
  unfold fsK andK
  rw [eqFs]
  cases xs[off]? with
  | none => rfl
  | some x => cases ys[off]? with
    | none => cases x <;> rfl
    | some y => cases x <;> cases y <;> try rfl
theorem eqCell_int {k : IntKind} {a b : Int} : eqCell 2 (.int k a) (.int k b) = some (a == b) := by simp [eqCell]
theorem eqCell_bool {a b : Bool} : eqCell 1 (.bool a) (.bool b) = some (a == b) := rfl
theorem eqCell_str {a b : ByteArray} : eqCell 3 (.str a) (.str b) = some (a.toList == b.toList) := rfl
theorem binE_str {op : BinOp} {xt : TypeId} {a b : ByteArray} : binE P o op xt (.t (.str a)) (.t (.str b)) = tK (strE op a b) := by
  unfold binE tK
  dsimp only
  cases strE op a b <;> rfl

def callK (o : Obs) (d : Option Nat) (args : List AV) (r : Option (AV × List AOb)) : Option Eff := match r, d with
  | some (r, obs), some d =>
      if obs.length ≤ 8 then some ⟨renA d obs.length o r, (if flatA r && obs.all flatOb then [] else frz o (args.flatMap refsA)) ++ newObs o d obs.length 0 obs⟩ else none
  | some (_, _), none => some ⟨.non, []⟩
  | none, _ => none
def callQ (call : Call') (o : Obs) (d : Option Nat) (f : FuncId) (args : List AV) (xs : Option (List AV)) : Option Eff := match xs with
  | some xs => callK o d args (call f xs)
  | none => none
theorem callE_eq {call : Call'} {f : FuncId} {args : List AV} : callE call o d f args = callQ call o d f args (snapsA o args) := by
  unfold callE callQ callK
  cases snapsA o args <;> rfl
theorem callQ_some {call : Call'} {f : FuncId} {args xs : List AV} : callQ call o d f args (some xs) = callK o d args (call f xs) := rfl
theorem callK_some {d : Nat} {args : List AV} {r : AV} {obs : List AOb} : callK o (some d) args (some (r, obs)) =
    if obs.length ≤ 8 then some ⟨renA d obs.length o r, (if flatA r && obs.all flatOb then [] else frz o (args.flatMap refsA)) ++ newObs o d obs.length 0 obs⟩ else none := rfl

def snapsAK (x : Option AV) (xs : Option (List AV)) : Option (List AV) := match x, xs with
  | some a, some as => some (a :: as)
  | _, _ => none
theorem snapsA_cons {x : AV} {xs : List AV} : snapsA o (x :: xs) = snapsAK (snapA o x) (snapsA o xs) := by
  unfold snapsAK; rw [snapsA]; cases snapA o x <;> cases snapsA o xs <;> rfl
theorem snapsA_nil : snapsA o [] = some [] := rfl
theorem snapsAK_some {x : AV} {xs : List AV} : snapsAK (some x) (some xs) = some (x :: xs) := rfl
def aggK (x : Option (List T)) : Option AV := match x with
  | some ys => some (.agg (ys.map .t))
  | none => none
theorem aggK_some {x : List T} : aggK (some x) = some (.agg (x.map .t)) := rfl
theorem snapA_agg {xs : List AV} : snapA o (.agg xs) = aggK (snaps o xs) := by unfold snapA aggK; dsimp only; cases snaps o xs <;> rfl
theorem snapA_t {x : T} : snapA o (.t x) = some (.t x) := rfl
theorem snapA_fn {f : FuncId} : snapA o (.fn f) = some (.fn f) := rfl
theorem snapA_own {id ver : Nat} : snapA o (.own id ver) = tK (snap o (.own id ver)) := by unfold snapA tK; dsimp only; cases snap o (.own id ver) <;> rfl
def snapsK (x : Option T) (xs : Option (List T)) : Option (List T) := match x, xs with
  | some a, some as => some (a :: as)
  | _, _ => none
theorem snaps_cons {x : AV} {xs : List AV} : snaps o (x :: xs) = snapsK (snap o x) (snaps o xs) := by
  unfold snapsK; rw [snaps]; cases snap o x <;> cases snaps o xs <;> rfl
theorem snaps_nil : snaps o [] = some [] := rfl
theorem snapsK_some {x : T} {xs : List T} : snapsK (some x) (some xs) = some (x :: xs) := rfl
theorem snap_t {x : T} : snap o (.t x) = some x := rfl
def snapK (b : Bool) (x : AOb) : Option T := match b, x with
  | true, .row _ nn _ _ n cs => some (if n = 0 ∧ nn = false then .em else .sl n cs)
  | _, _ => none
theorem snap_own {id ver : Nat} : snap o (.own id ver) = snapK ((o id).1 == ver) (o id).2 := by
  unfold snap snapK
  dsimp only
  by_cases h : (o id).1 = ver
  · rw [if_pos h, h]; simp only [BEq.rfl]; cases (o id).2 <;> rfl
  · rw [if_neg h]
    have : ((o id).1 == ver) = false := by simpa using h
    rw [this]
theorem snapK_row {fz nn : Bool} {e : TypeId} {sz n : Nat} {cs : List T} : snapK true (.row fz nn e sz n cs) = some (if n = 0 ∧ nn = false then .em else .sl n cs) := rfl

def ressK (x : Option AV) (xs : Option (List AV)) : Option (List AV) := match x, xs with
  | some a, some as => some (a :: as)
  | _, _ => none
theorem ressE_cons {st : St} {x : ResultVar} {xs : List ResultVar} : ressE P st (x :: xs) = ressK (resE P st x) (ressE P st xs) := by
  unfold ressK; rw [ressE]; cases resE P st x <;> cases ressE P st xs <;> rfl
theorem ressE_nil {st : St} : ressE P st [] = some [] := rfl
theorem ressK_some {x : AV} {xs : List AV} : ressK (some x) (some xs) = some (x :: xs) := rfl
theorem resE_tmp {st : St} {n : Nat} : resE P st (.tmp n) = some (st.s n) := rfl
def vK (x : Option Eff) : Option AV := match x with
  | some e => some e.v
  | none => none
theorem vK_some {e : Eff} : vK (some e) = some e.v := rfl
theorem resE_cell {st : St} {a : Nat} {t : TypeId} : resE P st (.cell a t) = vK (loadE P st.o t (st.s a)) := by unfold resE vK; dsimp only; cases loadE P st.o t (st.s a) <;> rfl
theorem intBeq (a b : Int) : (a == b) = decide (a = b) := by by_cases h : a = b <;> simp [h]
theorem intBne (a b : Int) : (a != b) = !decide (a = b) := by by_cases h : a = b <;> simp [h]

/-! what may be swapped: looked at only where something is written -/
def okQ (o : Oper) (q : Rc) (i : Nat) (rs : List Rc) (b : Bool) : Bool := match b with
  | true => okE o q (i + 1) rs
  | false => tiedE o i && okE o q (i + 1) rs
theorem okE_nil {op : Oper} {q : Rc} {i : Nat} : okE op q i [] = true := rfl
theorem okE_cons {op : Oper} {q r : Rc} {i : Nat} {rs : List Rc} : okE op q i (r :: rs) = okQ op q i rs (disE r q) := by
  unfold okQ; rw [okE]
  cases disE r q
  · rw [if_neg (by simp)]
  · rw [if_pos rfl, Bool.true_and]
theorem okQ_true {op : Oper} {q : Rc} {i : Nat} {rs : List Rc} : okQ op q i rs true = okE op q (i + 1) rs := rfl
theorem okQ_false {op : Oper} {q : Rc} {i : Nat} {rs : List Rc} : okQ op q i rs false = (tiedE op i && okE op q (i + 1) rs) := rfl
theorem disE_nil {d d' : Option Nat} {r r' : List Nat} : disE ⟨d, r, []⟩ ⟨d', r', []⟩ = true := rfl
theorem disE_left {d d' : Option Nat} {r r' : List Nat} {w : Nat} {ws ws' : List Nat} : disE ⟨d, r, w :: ws⟩ ⟨d', r', ws'⟩ = (apE d' r' (w :: ws) && apE d r ws' && (w :: ws).all fun id => !ws'.contains id) := rfl
theorem disE_right {d d' : Option Nat} {r r' : List Nat} {w : Nat} {ws : List Nat} : disE ⟨d, r, []⟩ ⟨d', r', w :: ws⟩ = apE d r (w :: ws) := by
  simp only [disE, apE, List.all_nil, Bool.true_and, Bool.and_true]
theorem apE_nil {d : Option Nat} {r : List Nat} : apE d r [] = true := rfl
theorem apE_cons {d : Option Nat} {r : List Nat} {w : Nat} {ws : List Nat} : apE d r (w :: ws) = ((!r.contains w && (match d with | some d => w / 8 != d | none => true)) && apE d r ws) := rfl
theorem rd_contains {s : Nat → AV} {op : Oper} {id : Nat} : (rdOp s op).contains id = (op.op.operands.toList.flatMap fun x => refsA (ev s x)).contains id := rfl
theorem rd_mem {s : Nat → AV} {op : Oper} {id : Nat} : (id ∈ rdOp s op) = (id ∈ op.op.operands.toList.flatMap fun x => refsA (ev s x)) := rfl
theorem idsW_nil {v : AV} : idsW ⟨v, []⟩ = [] := rfl
theorem idsW_cons {v : AV} {x : Nat × Nat × AOb} {ws : Wr} : idsW ⟨v, x :: ws⟩ = x.1 :: idsW ⟨v, ws⟩ := rfl
end
end Go.AX

namespace Go.AX
open Go

def ints (l : List Int) : List T := l.map (T.int .i64)
def slT (l : List Int) : T := .sl l.length (ints l)
def inB (n lo hi : Int) : Bool := decide (lo ≤ n) && decide (n ≤ hi)
def isVar (p c h s : Int) : Bool := inB p 2 24 && (inB c 1 15 && (inB h 1 p && inB s 1 6))
def wsum (l : List Int) : Int := l.foldl (fun a x => IntKind.i64.wrap (a + x)) 0
def vA (p c h s : Int) : AV := .agg [.t (.int .i64 p), .t (.int .i64 c), .t (.int .i64 h), .t (.int .i64 s)]
def bA (x y : List Int) : AV := .agg [.t (slT x), .t (slT y)]
def rA (a b : Int) : AV := .agg [.t (.int .i64 a), .t (.int .i64 b)]
def isRoll (p c h s a b : Int) : Bool := isVar p c h s && (inB a 1 s && inB b 1 a)

theorem wrap64 {n : Int} (h : -9223372036854775808 ≤ n ∧ n ≤ 9223372036854775807) : IntKind.i64.wrap n = n := by
  rw [IntKind.wrap_i64]; omega
theorem wrap_succ {k n : Nat} (h : k < n) (hn : n ≤ 9223372036854775807) : IntKind.i64.wrap ((k : Int) + 1) = ((k + 1 : Nat) : Int) := by
  rw [wrap64 (by omega)]; omega
theorem wsum_take {l : List Int} {k : Nat} {x : Int} (hx : l[k]? = some x) : wsum (l.take (k + 1)) = IntKind.i64.wrap (wsum (l.take k) + x) := by
  have e : l.take (k + 1) = l.take k ++ [x] := by
    rw [List.take_add_one, hx]; rfl
  unfold wsum
  rw [e, List.foldl_append]; rfl
end Go.AX
