/- The closed facts of this seat's rows that hang on the program alone, each shown once, cheaply: plain facts, under no condition. -/
import Derived.Test.YtmhlebpchllpbaaGreatDoorRows
import Derived.JoinedOf
namespace Go.Proofs.YtmhlebpchllpbaaGreatDoor
open Go
def blank : Char := Char.ofNat 32
theorem words_blank (r : List Char) : wordsSigns (blank :: r) = [] :: wordsSigns r := rfl
theorem words_other (c : Char) (r : List Char) (h : c ≠ blank) : wordsSigns (c :: r) = (match wordsSigns r with | w :: ws => (c :: w) :: ws | [] => [[c]]) := by
  conv => lhs; unfold wordsSigns
  split
  · rename_i e; cases e
  · rename_i e; injection e with e; exact absurd e h
  · rename_i e; injection e with e1 e2; subst e1; subst e2; rfl
theorem words_span : ∀ (a r : List Char), (∀ c ∈ a, c ≠ blank) → wordsSigns (a ++ blank :: r) = a :: wordsSigns r
  | [], r, _ => words_blank r
  | c :: a, r, h => by
    rw [List.cons_append, words_other c _ (h c (by simp)), words_span a r (fun d hd => h d (by simp [hd]))]
theorem sum_noBlank {s : List Char} (h : isSumSigns s = true) : ∀ c ∈ s, c ≠ blank := by
  unfold isSumSigns at h
  simp only [Bool.and_eq_true, List.all_eq_true] at h
  rintro c hc rfl
  have := h.2 _ hc
  revert this
  decide
theorem cut_words {P : Program} {s r : List Char} (h : P.initOrder.toList = "harness".toList ++ blank :: (s ++ blank :: ("cut".toList ++ blank :: r))) (hs : isSumSigns s = true) :
    behindMainWord (wordsSigns P.initOrder.toList) = "cut".toList :: wordsSigns r := by
  rw [h, words_span _ _ (by decide), words_span _ _ (sum_noBlank hs), words_span _ _ (by decide)]
  have e : ("harness".toList == "harness".toList) = true := by decide
  simp only [behindMainWord, e, hs, Bool.true_or, Bool.and_self, if_true]
theorem strip_cut (ws : List (List Char)) : stripLifts liftWords ("cut".toList :: ws) = ([], "cut".toList :: ws) := rfl
theorem make_cut {P : Program} {ws : List (List Char)} (h : behindMainWord (wordsSigns P.initOrder.toList) = "cut".toList :: ws) : P.make = some .cut := by
  unfold Program.make; rw [h]; rfl
theorem headLifts_cut {P : Program} {ws : List (List Char)} (h : behindMainWord (wordsSigns P.initOrder.toList) = "cut".toList :: ws) : P.headLifts = [] := by
  unfold Program.headLifts; rw [h, strip_cut]; rfl
theorem liftsFinal_cut {P : Program} {ws : List (List Char)} (h : behindMainWord (wordsSigns P.initOrder.toList) = "cut".toList :: ws) : P.liftsFinal = false := by
  unfold Program.liftsFinal; rw [headLifts_cut h, h]; rfl
theorem mayEnter_cut {P : Program} {ws : List (List Char)} (h : behindMainWord (wordsSigns P.initOrder.toList) = "cut".toList :: ws) (h1 : P.laysLater = false) (h2 : P.bearsReflect = false) (h3 : P.doorFits [] = true) : P.mayEnter = true := by
  unfold Program.mayEnter; rw [h]
  simp only [strip_cut, h1, h2, h3]
  rfl
theorem list_of {s : String} {l : List Char} (h : s = String.ofList l) : s.toList = l := by rw [h]; exact String.toList_ofList
theorem cut_list (l : List Char) (h : l = "harness".toList ++ blank :: ((l.drop 8).take 64 ++ blank :: ("cut".toList ++ blank :: l.drop 77))) (hs : isSumSigns ((l.drop 8).take 64) = true) {P : Program} (hl : P.initOrder.toList = l) :
    behindMainWord (wordsSigns P.initOrder.toList) = "cut".toList :: wordsSigns (l.drop 77) := cut_words (hl.trans h) hs
set_option maxRecDepth 100000 in
theorem seat_words : ∃ ws, behindMainWord (wordsSigns Tryz.prog.initOrder.toList) = "cut".toList :: ws :=
  ⟨_, cut_list _ (by kernel_rfl) (by kernel_rfl) (list_of (s := Tryz.prog.initOrder) rfl)⟩
theorem seat_make : (Tryz.prog.make == some Make.cut) = true := by obtain ⟨ws, h⟩ := seat_words; rw [make_cut h]; rfl
theorem seat_lifts : Tryz.prog.liftsFinal = false := by obtain ⟨ws, h⟩ := seat_words; exact liftsFinal_cut h
theorem seat_later : Tryz.prog.laysLater = false := by kernel_rfl
theorem seat_reflect : Tryz.prog.bearsReflect = false := by kernel_rfl
theorem seat_door : Tryz.prog.doorFits [] = true := by kernel_rfl
theorem seat_enter : Tryz.prog.mayEnter = true := by obtain ⟨ws, h⟩ := seat_words; exact mayEnter_cut h seat_later seat_reflect seat_door
theorem own_knob : ownKnob Tryz.prog.godebug = none := by kernel_rfl
theorem laid_out : laidOutB Tryz.prog = true := by kernel_rfl
theorem seat_maps : mapsRowed Tryz.prog = true := by kernel_rfl
theorem seat_keys : Tryz.prog.plainKeys = true := by kernel_rfl
theorem seat_stops : (Tryz.prog.stops == []) = true := by kernel_rfl
theorem seat_stopKnobs : (Tryz.prog.stopKnobs == []) = true := by kernel_rfl
theorem seat_heard : Tryz.prog.stopsHeard = true := by kernel_rfl
set_option maxRecDepth 100000 in
/-- The closed facts of one row, out of the seat's and its own. -/
theorem facts_of {f : FuncId} {fn : Func} {s : ChangeSpec} {c : OpenClaim} (k1 : c.wf (OpenSpec.ofChange s) = true) (k4 : fn.params.all (Tryz.prog.readableRec ·) = true) (k5 : namedTie Tryz.prog c.named s.vars = true)
    (k6 : (c.stops == []) = true) (k8 : (c.knobs == []) = true) (k10 : (c.inPlace == Tryz.prog.inPlace f) = true) (k11 : (c.unfollowed == Tryz.prog.unfollowed f) = true) (k12 : (c.recurses == Tryz.prog.recurses f) = true) (k13 : (c.named == Tryz.prog.varsNamed f) = true)
    (k14 : (c.maps == (fn.params.toList ++ s.plain.varTypes Tryz.prog).any (Tryz.prog.mapsRec ·)) = true) (k15 : (c.ifaces == (fn.params.toList ++ s.plain.varTypes Tryz.prog).any (Tryz.prog.ifacesRec ·)) = true) (k16 : (c.mapsOut == Tryz.prog.mapsAmong fn.resultTypes.toList) = true)
    (k17 : (c.loops == (fn.params.toList ++ s.plain.varTypes Tryz.prog).any (Tryz.prog.loopsFrom ·)) = true) (k17b : (c.wideKeys == (fn.params.toList ++ s.plain.varTypes Tryz.prog ++ fn.resultTypes.toList).any (Tryz.prog.wideKeysFrom ·)) = true)
    (k18 : s.vars.all (Tryz.prog.varReadable ·) = true) (k19 : fn.resultTypes.all (fun t => Tryz.prog.readableRec t && decide (t < Tryz.prog.types.size)) = true) (k20 : (c.ifacesOut == fn.resultTypes.toList.any (Tryz.prog.ifacesRec ·)) = true) (k21 : (c.loopsOut == fn.resultTypes.toList.any (Tryz.prog.loopsFrom ·)) = true)
    (k22 : c.plainKeys = true) (k23 : c.shortTexts.isNone = true) (k24b : c.lifted = false) (k24c : c.make = .cut)
    (k25 : (c.kinds == (if c.domain.isEmpty then [] else fn.params.toList.map fun t => match Tryz.prog.underlying t with | some (.int k) => some k | _ => none)) = true) (k26 : (c.pinned == c.pinnedBy) = true)
    (k27 : (c.veiled == (fn.params.toList ++ s.plain.varTypes Tryz.prog ++ fn.resultTypes.toList).any (Tryz.prog.veiledRec ·)) = true) (k28 : c.veiledFits Tryz.prog fn.params.toList (fn.params.toList ++ s.plain.varTypes Tryz.prog ++ fn.resultTypes.toList) = true) :
    joinedFacts Tryz.prog f fn s c = true := by
  have e1 : (c.plainKeys == Tryz.prog.plainKeys) = true := by rw [k22, seat_keys]; rfl
  have e2 : (c.lifted == Tryz.prog.liftsFinal) = true := by rw [k24b, seat_lifts]; rfl
  have e3 : (Tryz.prog.make == some c.make) = true := by rw [k24c]; exact seat_make
  unfold joinedFacts
  simp only [Bool.and_eq_true]
  exact ⟨⟨⟨⟨⟨⟨⟨⟨⟨⟨⟨⟨⟨⟨⟨⟨⟨⟨⟨⟨⟨⟨⟨⟨⟨⟨⟨⟨⟨⟨⟨k1, laid_out⟩, seat_maps⟩, k4⟩, k5⟩, k6⟩, seat_stops⟩, k8⟩, seat_stopKnobs⟩, k10⟩, k11⟩, k12⟩, k13⟩, k14⟩, k15⟩, k16⟩, k17⟩, k17b⟩, k18⟩, k19⟩, k20⟩, k21⟩, e1⟩, k23⟩, seat_heard⟩, seat_enter⟩, e2⟩, e3⟩, k25⟩, k26⟩, k27⟩, k28⟩
end Go.Proofs.YtmhlebpchllpbaaGreatDoor
