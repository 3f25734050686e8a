/-
  DeflexQuotes.
-/
import Derived.Test.YtmkidbenndhhjaaDoorWorks
import Derived.Test.YtmkidbenndhhjaaDoorRQuote
import Derived.Test.YtmkidbenndhhjaaDoorRQuote2
set_option linter.unusedVariables false
set_option linter.unusedSimpArgs false
namespace Go.Proofs.YtmkidbenndhhjaaDoor.Dx
open Go.RowKit Go.Proofs Mx Bx
theorem quotes_law (s : ByteArray) (w : World) (E : Env w) (R : Bru w) :
    Calls Tryd.prog 4 #[.string s] w fun e w' => e = .returned (.bool true) ∧ Below w.heap.size w w' := by
  have hwk := works_any w E R
  have h10 := E.big
  have HE := Lib.hid (And.intro E R)
  clear E R
  go_enter Tryd.func4, Tryd.ntmps4
  by_cases hs : 5000 < s.size
  · have hs' : (5000 : Int) < (s.size : Int) := by omega
    go_wp2_with fail
    refine hwk.mono ?_
    rintro e w1 ⟨rfl, hb1⟩
    have H1 := Lib.hid hb1
    clear hb1
    go_wp2_with fail
    go_ret
    exact ⟨rfl, H1.out⟩
  have hs' : ¬ (5000 : Int) < (s.size : Int) := by omega
  clear hwk
  go_wp2_with fail
  refine (quote_any s (by omega) _).mono ?_
  rintro e w1 ⟨rfl, hb1⟩
  have H1 := Lib.hid hb1
  clear hb1
  go_wp2_with fail
  refine (rquote_any s (by omega) _).mono ?_
  rintro e w2 ⟨rfl, hb2⟩
  have H2 := Lib.hid (H1.out.trans (hb2.mono H1.out.size))
  clear hb2
  go_wp2_with fail
  refine (name_any s (by omega) _).mono ?_
  rintro e w3 ⟨rfl, hb3⟩
  have H3 := Lib.hid (H2.out.trans (hb3.mono H2.out.size))
  clear hb3
  go_wp2_with fail
  refine (rname_any s (by omega) _).mono ?_
  rintro e w4 ⟨rfl, rfl⟩
  go_wp2_with fail
  refine (works_any w4 (HE.out.1.below H3.out h10) (HE.out.2.below H3.out h10)).mono ?_
  rintro e w5 ⟨rfl, hb5⟩
  have H5 := Lib.hid (H3.out.trans (hb5.mono H3.out.size))
  clear hb5
  go_wp2_with fail
  go_ret
  exact ⟨rfl, H5.out⟩
end Go.Proofs.YtmkidbenndhhjaaDoor.Dx
