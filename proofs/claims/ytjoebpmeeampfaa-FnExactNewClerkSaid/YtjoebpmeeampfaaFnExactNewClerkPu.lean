/- What the terms of FnExactNewClerk come to. -/
import Derived.Test.YtjoebpmeeampfaaFnExactNewClerkTab
namespace Go.Proofs.Ytjoebpmeeampfaa
namespace FnExactNewClerk
open Go Go.Proofs.Ytjoebpmeeampfaa.Rf
set_option linter.unusedSimpArgs false
set_option linter.unusedVariables false
set_option linter.unnecessarySimpa false
set_option maxHeartbeats 4000000
set_option maxRecDepth 10000
theorem law : Fun T 0 [] = some [.bool true] := Fun_some.2 ⟨12, by kernel_rfl⟩
theorem hpure : ∀ ds, WTs [] ds → ∃ n, callN T n 0 ds = some [.bool true] := by
 intro ds h
 simp only [WTs] at h
 subst h
 exact pure_of (law )
end FnExactNewClerk
end Go.Proofs.Ytjoebpmeeampfaa
