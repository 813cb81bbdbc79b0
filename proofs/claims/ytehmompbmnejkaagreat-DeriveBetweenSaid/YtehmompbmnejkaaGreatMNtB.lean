/- Contract of package nat's Text. Conditions: the words are below 2^32; at most 40000 of them. -/
import Derived.Test.YtehmompbmnejkaaGreatMNatB
import Derived.Laws.BytesArg
import Derived.BigRegion
import Derived.Lib.Strings
namespace Go.Proofs.YtehmompbmnejkaaGreat
open Go.RowKit

theorem OwnK.blk {k : IntKind} {w : World} {B n : Nat} {e : TypeId} {v : Value} {xs : List Int} (h : OwnK k w B e v n xs) (hn : 0 < n) : ∃ g cap, v = .slice (some ⟨g, 0, none⟩) n cap ∧ ArrP k e w g xs ∧ B ≤ g ∧ n ≤ cap ∧ cap ≤ 9223372036854775807 := by
 rcases h.2 with ⟨h1, h2⟩ | ⟨g, cap, cur, rfl, hg, hh, h3, h4, h5, h6⟩
 ·omega
 ·exact ⟨g, cap, rfl, OwnK.part h, hg, h3, h4⟩
end Go.Proofs.YtehmompbmnejkaaGreat
/- Contract of package nat's Read. No conditions. -/
namespace Go.Proofs.YtehmompbmnejkaaGreat
open Go.RowKit

end Go.Proofs.YtehmompbmnejkaaGreat
