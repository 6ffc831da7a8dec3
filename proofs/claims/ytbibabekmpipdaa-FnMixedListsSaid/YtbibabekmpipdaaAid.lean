/- A small aid for walks: two cuts of one slice begin at one place. No condition. -/
import Derived.Test.YtbibabekmpipdaaWMore
set_option linter.unusedVariables false
set_option linter.unusedSimpArgs false
namespace Go.Proofs.Ytbibabekmpipdaa.Aid

theorem same_cut {P : Program} {m : Sem Value} {A B : Option Addr} {n c n' c' : Nat} (w : World) (h : ∀ W : World, m.run P W = .ok (.slice A n c) W) (g : ∀ W : World, m.run P W = .ok (.slice B n' c') W) : A = B := by
  have e := (h w).symm.trans (g w)
  injection e with e1 e2
  injection e1

end Go.Proofs.Ytbibabekmpipdaa.Aid
