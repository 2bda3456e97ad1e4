/- Sets of days: the law of ShiftSet. -/
import Derived.Test.YticnkjpgjcddcaaSets7
import Derived.Test.YticnkjpgjcddcaaOwn
namespace Go.Proofs.Yticnkjpgjcddcaa
open Go.RowKit
theorem shiftR_len (xs : List (Int × Int)) (m : Int) : (shiftR xs m).1.length ≤ 4000000 := by
  unfold shiftR
  cases hs : isSet xs
  · simp
  · have h1 := (isSet_iff.1 hs).2
    have h2 := shift_len m xs xs.length
    rw [List.take_length] at h2
    simp only [if_true]
    split
    · show (shiftL m xs).length ≤ _; omega
    · simp

end Go.Proofs.Yticnkjpgjcddcaa
