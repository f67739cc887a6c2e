/- FnExactDeskText holds: whatever the desk, DeskText of the program returns what DeskText of the reference returns, and the argument reads as before. Condition: the three listed tables of the library are as the text lays them (the card ties them). The law is run, said of every world and argument. -/
import Derived.Test.YtkinlkcdjecgmaaDoorDeskU
import Derived.Test.YtkinlkcdjecgmaaDoorShelf
import Derived.Test.YtkinlkcdjecgmaaDoorCards
import Derived.Test.YtkinlkcdjecgmaaDoorTie
import Derived.WalkKit
import Derived.ProofKit
import Derived.OpenShut
import Derived.Carry
import Derived.Deep.DeepHandedRow
import Derived.Lib.LaidTab
set_option maxRecDepth 100000
namespace Go.Proofs.YtkinlkcdjecgmaaDoor
open Go.ChangeShapes Go.WideShapes Go.ChangeAt Go.RowKit Go.AX

theorem own : ownKnob Tryd.prog.godebug = none := by kernel_rfl
theorem gTab : Tryd.prog.globalNamed "internal/strconv.uint64pow10" = some 0 := by kernel_rfl
theorem gTabType : (Tryd.prog.globals[0]?).map (·.type) = some 99 := by kernel_rfl

theorem tab_of {P : Program} {W : World} {name : String} {k : IntKind} {zs : List Int} {g : Nat} {t e : TypeId} {n : Nat}
    (hg : P.globalNamed name = some g) (hty : (P.globals[g]?).map (·.type) = some t) (ht : P.underlying t = some (.array n e)) (he : P.underlying e = some (.int k)) (hce : P.cellsOf e = 1) (hct : P.cellsOf t = n) :
    ∀ {laid : List (String × DataW Unit)} {ps : List MemPlace}, DataW.LaidVars P W laid ps → (name, Lib.tabData k zs) ∈ laid → Lib.TabIs P W name k zs
  | [], _, _, hm => by simp at hm
  | x :: rest, ps, h, hm => by
    obtain ⟨g', t', cs, fuel, p, q, hg', ht', hvar, hd, hrest, _⟩ := h
    rcases List.mem_cons.1 hm with rfl | hm
    · obtain rfl := Option.some.inj (hg.symm.trans hg')
      obtain rfl := Option.some.inj (hty.symm.trans ht')
      unfold Lib.TabIs
      rw [hvar, ← Lib.cells_of_tab ht he hce hct hd]
    · exact tab_of hg hty ht he hce hct hrest hm

theorem tab_block {w : World} (h : Lib.TabIs Tryd.prog w "internal/strconv.uint64pow10" .u64 Lib.pow10Tab) : ∃ c, w.heap[0]? = some c := by
  unfold Lib.TabIs World.var? at h
  rw [gTab] at h
  simp only [Option.bind_some] at h
  split at h
  · exact ⟨_, by assumption⟩
  · cases h
theorem tab_same {w w' : World} (h : Lib.TabIs Tryd.prog w "internal/strconv.uint64pow10" .u64 Lib.pow10Tab) (hb : w'.heap[0]? = w.heap[0]?) : Lib.TabIs Tryd.prog w' "internal/strconv.uint64pow10" .u64 Lib.pow10Tab := by
  unfold Lib.TabIs World.var? at h ⊢
  rw [gTab] at h ⊢
  simp only [Option.bind_some] at h ⊢
  rw [hb]; exact h

theorem callJoin : callable Tryd.prog 26 = true := by kernel_rfl
theorem callItoa : callable Tryd.prog 61 = true := by kernel_rfl
theorem mixed : Tryd.prog.follows .mixedOrders = true := by kernel_rfl

/-- The known answers are answers, where the table is laid. -/
theorem prim_keeps {w : World} (ht : Lib.TabIs Tryd.prog w "internal/strconv.uint64pow10" .u64 Lib.pow10Tab) : @Keeps ⟨fun g => if g = 0 then w.heap[0]? else none⟩ Tryd.prog (@Prim.ans primD) := by
  letI : Cst := ⟨fun g => if g = 0 then w.heap[0]? else none⟩
  intro f xs r obs h
  simp only [Prim.ans] at h
  by_cases h1 : f = 26
  · rw [if_pos h1] at h
    subst h1
    exact ⟨callJoin, join_con (fun a c sep w => Tryd.strings_Join_none a c sep w) (fun bk o c xs sep w hc hb hN hcap hlen => Tryd.strings_Join bk o c xs sep w hc hb hN hcap hlen) h⟩
  · rw [if_neg h1] at h
    by_cases h2 : f = 61
    · rw [if_pos h2] at h
      subst h2
      refine ⟨callItoa, itoa_con (fun n hn0 hn1 w' hw' => ?_) h⟩
      obtain ⟨c, hc⟩ := tab_block ht
      exact Tryd.internal_strconv_FormatInt_10 n hn0 hn1 w' (tab_same ht ((hw' 0 c (by show (if (0 : Nat) = 0 then w.heap[0]? else none) = some c; rw [if_pos rfl]; exact hc)).trans hc.symm))
    · rw [if_neg h2] at h
      cases h
end Go.Proofs.YtkinlkcdjecgmaaDoor
namespace Go.Proofs.YtkinlkcdjecgmaaDoor.fnExactDeskText
open Go.ChangeShapes Go.WideShapes Go.ChangeAt Go.RowKit Go.AX

theorem table {W : World} (h : laidMetH Tryd.prog Rows.fnExactDeskTextRow.laid W) : Lib.TabIs Tryd.prog W "internal/strconv.uint64pow10" .u64 Lib.pow10Tab := by
  have h' : laidMet Tryd.prog Rows.fnExactDeskTextRow.laid W := h
  obtain ⟨ps, hl, _⟩ := h'
  exact tab_of gTab gTabType Tryd.underlying99 Tryd.underlying89 (by kernel_rfl) (by kernel_rfl) hl (by
    have e : (Rows.laid_internal_strconv_uint64pow10 : DataW Unit) = Lib.tabData .u64 Lib.pow10Tab := by rfl
    unfold Rows.fnExactDeskTextRow
    rw [e]
    simp)

theorem contract (H : Type) (enc : TypeId × Value → H) (W : World) (base : Nat) (args : Array Value) (ds gs : List (DataW H)) (before : List MemPlace)
    (hval : ∀ (j : Nat) t v, Tryd.f3.params[j]? = some t → args[j]? = some v → Value.okWide Tryd.prog W .any base t v)
    (hW : DataW.Whole enc Tryd.prog Tryd.f3.params.toList Rows.fnExactDeskTextSpec.vars false W args.toList ds gs before) (hL : laidMetH Tryd.prog Rows.fnExactDeskTextRow.laid W) :
    Calls Tryd.prog 3 args W fun e W' => ∃ v, e = .returned v ∧ Rows.fnExactDeskTextSpec.post enc Tryd.prog Tryd.f3 false true false false W args v W' := by
  have hW' := hW
  have ht := table hL
  obtain ⟨p, q, hA0, hV, rfl, hfz, hnd⟩ := hW
  have hA : DataW.TrodAll enc Tryd.prog W 0 (fun _ => true) true Tryd.f3.params.toList args.toList ds p := hA0
  have hlt := hW'.lt
  rw [Tryd.params3] at hA hval
  obtain ⟨v0, vs0, d0, ds0, p0, q0, hargs, rfl, rfl, h0, r0⟩ := trodAll_cons hA
  obtain ⟨rfl, rfl, rfl⟩ := trodAll_nil r0
  obtain rfl : args = #[v0] := Array.toList_inj.1 hargs
  obtain ⟨rfl, rfl⟩ := trodVars_none hV
  clear hA0
  simp only [List.append_nil] at hW' hlt
  letI : Cst := ⟨fun g => if g = 0 then W.heap[0]? else none⟩
  obtain ⟨ts, hT, hav⟩ := arg_ok (E := fun _ => undef) (n := 5) (by kernel_rfl) (hval 0 31 v0 rfl rfl) h0
  obtain ⟨p, c, h, s, X, Y, a, b, seed, Z, x, y, L, hts, hx, hy, hz, hL', hxl, hyl, hl⟩ := hasDesk hT
  rw [hts] at hav
  have hr := rlDeskText p c h s a b seed hx hy hz hL' hxl hyl hl
  have hc := law_below (w := W) (E := fun _ => undef) mixed (prim_keeps ht) hr (by
    intro g c hg
    simp only [Cst.K] at hg
    split at hg
    · rename_i e; subst e; exact hg
    · cases hg) (vs := [v0]) (by simp only [AVRs]; exact ⟨v0, [], rfl, hav, rfl⟩)
  refine hc.mono fun e W' ⟨he, hbelow⟩ => ?_
  subst he
  refine ⟨_, rfl, _, _, _, [] ++ [], p0 ++ [], [], hW', ?_, ?_, ?_, hbelow.frame _, fun h => by cases h⟩
  · exact trodAll_cons_mk (shut_bool Tryd.underlying4 _) trodAll_mk0
  · exact trodAll_cons_mk (Below.trod (by kernel_rfl) (by kernel_rfl) (of_decide_eq_true (by kernel_rfl)) h0 hbelow (fun z hz => hlt z (by simpa using hz))) trodAll_mk0
  · rfl

def litV : DataW Unit → Value
  | .lit (.int k n) => .int k n
  | _ => undef
def aggV : DataW Unit → Array Value
  | .agg xs => (xs.map litV).toArray
  | _ => #[]
def layV (d : DataW Unit) : Obj → Obj
  | .cells _ t frozen => .cells (aggV d) t frozen
  | o => o
/-- A world for the witness: the settled one, the tables holding what their initialisers lay. -/
noncomputable def laidWorld (os : Os) : World :=
  { World.holding Tryd.prog os ⟨#[], #[], []⟩ with heap := (((World.holding Tryd.prog os ⟨#[], #[], []⟩).heap.modify 0 (layV Rows.laid_internal_strconv_uint64pow10)).modify 2 (layV Rows.laid_math_bits_deBruijn32tab)).modify 3 (layV Rows.laid_math_bits_deBruijn64tab) }
def wit : Value := .agg #[.int .i64 0, .int .i64 0, .int .i64 0, .int .i64 0, .slice none 0 0, .slice none 0 0, .int .i64 0, .int .i64 0, .int .i64 0, .slice none 0 0]
theorem laid_met (os : Os) : laidMet Tryd.prog Rows.fnExactDeskTextRow.laid ((laidWorld os).forCall (fun _ _ => 0) ⟨#[], #[wit], []⟩).memory :=
  laidMet_of_run' 8 (by kernel_rfl) (by kernel_rfl)
def witD {H : Type} : DataW H := .agg [.agg [.lit (.int .i64 0), .lit (.int .i64 0), .lit (.int .i64 0), .lit (.int .i64 0)], .agg [.nil, .nil], .agg [.lit (.int .i64 0), .lit (.int .i64 0)], .lit (.int .i64 0), .nil]
theorem reads (os : Os) {H : Type} (enc : TypeId × Value → H) : ∃ places, DataW.whole enc Tryd.prog ((laidWorld os).forCall (fun _ _ => 0) ⟨#[], #[wit], []⟩).memory Tryd.f3.params.toList Rows.fnExactDeskTextSpec.vars false #[wit].toList 8 = some ([witD], [], places) :=
  ⟨[], by kernel_rfl⟩

theorem lifted (os : Os) (started : os.Started) (H : Type) (enc : TypeId × Value → H) (F : Stop.Interp) :
    ReturnsInHanded {} Tryd.checked os 3 .any ((OpenSpec.ofChange Rows.fnExactDeskTextSpec).preRow enc Tryd.prog Tryd.f3 Rows.fnExactDeskTextRow.domain false Rows.fnExactDeskTextRow.laid) (((OpenSpec.ofChange Rows.fnExactDeskTextSpec).at F).post enc Tryd.prog Tryd.f3 false true false false) := by
  obtain ⟨places, hx⟩ := reads os enc
  refine returnsInHanded_of_row (C := Tryd.checked) (s := OpenSpec.ofChange Rows.fnExactDeskTextSpec) own started (by kernel_rfl) Tryd.func3
    (witness_row_at (enc := enc) (C := Tryd.checked) false (laidWorld os) #[wit] rfl (by kernel_rfl) (by kernel_rfl) (by kernel_rfl)
      (OpenSpec.preRow_of_cond 8 hx (by kernel_rfl) (fun k hk => by cases hk) (by kernel_rfl) (laid_met os))) ?_
  intro W base args ds gs before hval hW _ _ _ hL _ _
  exact contract H enc W base args ds gs before hval hW hL

theorem said : Rows.FnExactDeskTextSaid :=
  OpenClaim.holds_of_cond 3 Tryd.f3 rfl rfl rfl rfl rfl rfl rfl ⟨rfl, rfl, rfl, rfl, rfl⟩ rfl rfl rfl rfl rfl (by kernel_rfl) Tryd.func3 (by kernel_rfl)
    (of_decide_eq_true (by kernel_rfl)) (by unfold Func.isWrapper; first | (rw [if_pos (by decide +kernel)]; kernel_rfl) | (rw [if_neg (by decide +kernel)]; exact ⟨rfl, rfl⟩))
    (fun os started H enc _ F => by rw [OpenClaim.pre_eq_preRow]; exact lifted os started H enc F)

theorem plain (f : FuncId) (fn : Func) (hf : Tryd.pinned.checked.prog.funcNamed "loop.example/g00885/laws.FnExactDeskText" = some f) (hfn : Tryd.pinned.checked.prog.funcs[f]? = some fn) :
    false = Tryd.pinned.checked.prog.looks [] ∧ ∀ (j : Nat) t, fn.params[j]? = some t → Tryd.pinned.checked.prog.wantsStandIn t = false := by
  obtain rfl : f = 3 := Option.some.inj ((show Tryd.prog.funcNamed "loop.example/g00885/laws.FnExactDeskText" = some 3 by kernel_rfl).symm.trans hf) |>.symm
  obtain rfl : fn = Tryd.f3 := (Option.some.inj (Tryd.func3.symm.trans hfn)).symm
  refine ⟨by kernel_rfl, fun j t ht => ?_⟩
  rw [Tryd.params3] at ht
  obtain rfl : t = 31 := by simpa using Array.mem_of_getElem? ht
  exact (show Tryd.prog.wantsStandIn 31 = false by kernel_rfl)

/-- The claim. -/
theorem card : Rows.FnExactDeskTextCardSaid :=
  Claim7.holds_tied_plain_at .later [] _ _ _ _ said (fun _ h => by cases h) (by kernel_rfl) (fun _ h => by cases h) fnExactDeskText_row_tie rfl ⟨rfl, rfl⟩ (by kernel_rfl) rfl plain (by kernel_rfl)
end Go.Proofs.YtkinlkcdjecgmaaDoor.fnExactDeskText
