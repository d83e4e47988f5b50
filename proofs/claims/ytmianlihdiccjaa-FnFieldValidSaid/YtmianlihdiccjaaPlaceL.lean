/- Plain: where a place of a field lies when it is turned or moved. -/
import Derived.Test.YtmianlihdiccjaaPlace
namespace Go.Proofs.Ytmianlihdiccjaa
theorem in_turn {S k a b : Nat} (hS : 0 < S) (ha : k % S = a) (hb : k / S = b) (hb8 : b < S) : inI S (S - 1 - b) a = turnP S k := by
  have ha8 : a < S := by rw [← ha]; exact Nat.mod_lt _ hS
  unfold inI turnP
  rw [ha, hb, Nat.mod_eq_of_lt ha8, Nat.mod_eq_of_lt (by omega)]
theorem in_move {S k a b E O : Nat} (ha : k % S = a) (hb : k / S = b) : inI S ((a + E) % S) ((b + O) % S) = moveP S E O k := by
  unfold inI moveP
  rw [ha, hb, Nat.mod_mod, Nat.mod_mod]
end Go.Proofs.Ytmianlihdiccjaa
