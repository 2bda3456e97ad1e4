/- The laws over one number, one date or one calendar: each walk ends in 'true'. -/
import Derived.Test.YtoiejdbmjdfdiaaOne
import Derived.Test.YtoiejdbmjdfdiaaFrame
namespace Go.Proofs.Ytoiejdbmjdfdiaa
open Go.RowKit

theorem walk_FnExactConstants (w : World) : Calls Try.prog 3 #[] w (Yes w) := by
  go_enter Try.func3, Try.ntmps3
  go_wp2
  go_ret
  exact ⟨rfl, Below.refl _ _⟩
theorem walk_FnExactGoldenNumber (y : Int) (_ : I64 y) (w : World) :
    Calls Try.prog 5 #[.int .i64 y] w (Yes w) := by
  go_enter Try.func5, Try.ntmps5
  go_wp2_with (first | (go_at_call 18; (refine (specGoldenNumber_any _ _).mono ?_; rintro e w' ⟨rfl, hb⟩; obtain ⟨hc, hf⟩ := bcell hb; have hz := bsize hb)) | (go_at_call 19; (refine (implGoldenNumber_any _ _).mono ?_; rintro e w' ⟨rfl, hb⟩; obtain ⟨hc, hf⟩ := bcell hb; have hz := bsize hb)))
  go_ret
  exact ⟨rfl, by (repeat' (first | (with_reducible exact Below.refl _ _) | (with_reducible assumption) | (with_reducible refine below_al ?_ _) | (with_reducible refine Below.drew ?_) | (with_reducible refine below_drewN ?_ _) | (with_reducible refine below_tt ?_ (by assumption))))⟩
theorem walk_FnExactWeekdayOf (y : Int) (_ : I64 y) (w : World) :
    Calls Try.prog 6 #[.int .i64 y] w (Yes w) := by
  go_enter Try.func6, Try.ntmps6
  go_wp2_with (first | (go_at_call 20; (refine (specWeekdayOf_any _ _).mono ?_; rintro e w' ⟨rfl, hb⟩; obtain ⟨hc, hf⟩ := bcell hb; have hz := bsize hb)) | (go_at_call 21; (refine (implWeekdayOf_any _ _).mono ?_; rintro e w' ⟨rfl, hb⟩; obtain ⟨hc, hf⟩ := bcell hb; have hz := bsize hb)))
  go_ret
  exact ⟨rfl, by (repeat' (first | (with_reducible exact Below.refl _ _) | (with_reducible assumption) | (with_reducible refine below_al ?_ _) | (with_reducible refine Below.drew ?_) | (with_reducible refine below_drewN ?_ _) | (with_reducible refine below_tt ?_ (by assumption))))⟩
theorem walk_FnExactSundayLetters (y : Int) (_ : I64 y) (w : World) :
    Calls Try.prog 9 #[.int .i64 y] w (Yes w) := by
  go_enter Try.func9, Try.ntmps9
  go_wp2_with (first | (go_at_call 27; (refine (specSundayLetters_any _ _).mono ?_; rintro e w' ⟨rfl, hb⟩; obtain ⟨hc, hf⟩ := bcell hb; have hz := bsize hb)) | (go_at_call 28; (refine (implSundayLetters_any _ _).mono ?_; rintro e w' ⟨rfl, hb⟩; obtain ⟨hc, hf⟩ := bcell hb; have hz := bsize hb)))
  go_ret
  exact ⟨rfl, by (repeat' (first | (with_reducible exact Below.refl _ _) | (with_reducible assumption) | (with_reducible refine below_al ?_ _) | (with_reducible refine Below.drew ?_) | (with_reducible refine below_drewN ?_ _) | (with_reducible refine below_tt ?_ (by assumption))))⟩
theorem walk_FnExactEasterTerm (y : Int) (_ : I64 y) (w : World) :
    Calls Try.prog 10 #[.int .i64 y] w (Yes w) := by
  go_enter Try.func10, Try.ntmps10
  go_wp2_with (first | (go_at_call 29; (refine (specEasterTerm_any _ _).mono ?_; rintro e w' ⟨rfl, hb⟩; obtain ⟨hc, hf⟩ := bcell hb; have hz := bsize hb)) | (go_at_call 30; (refine (implEasterTerm_any _ _).mono ?_; rintro e w' ⟨rfl, hb⟩; obtain ⟨hc, hf⟩ := bcell hb; have hz := bsize hb)))
  go_ret
  exact ⟨rfl, by (repeat' (first | (with_reducible exact Below.refl _ _) | (with_reducible assumption) | (with_reducible refine below_al ?_ _) | (with_reducible refine Below.drew ?_) | (with_reducible refine below_drewN ?_ _) | (with_reducible refine below_tt ?_ (by assumption))))⟩
theorem walk_FnExactOldEaster (y : Int) (_ : I64 y) (w : World) :
    Calls Try.prog 13 #[.int .i64 y] w (Yes w) := by
  go_enter Try.func13, Try.ntmps13
  go_wp2_with (first | (go_at_call 35; (refine (specOldEaster_any _ _).mono ?_; rintro e w' ⟨rfl, hb⟩; obtain ⟨hc, hf⟩ := bcell hb; have hz := bsize hb)) | (go_at_call 36; (refine (implOldEaster_any _ _).mono ?_; rintro e w' ⟨rfl, hb⟩; obtain ⟨hc, hf⟩ := bcell hb; have hz := bsize hb)))
  go_ret
  exact ⟨rfl, by (repeat' (first | (with_reducible exact Below.refl _ _) | (with_reducible assumption) | (with_reducible refine below_al ?_ _) | (with_reducible refine Below.drew ?_) | (with_reducible refine below_drewN ?_ _) | (with_reducible refine below_tt ?_ (by assumption))))⟩
theorem walk_FnExactNewEaster (y : Int) (_ : I64 y) (w : World) :
    Calls Try.prog 14 #[.int .i64 y] w (Yes w) := by
  go_enter Try.func14, Try.ntmps14
  go_wp2_with (first | (go_at_call 37; (refine (specNewEaster_any _ _).mono ?_; rintro e w' ⟨rfl, hb⟩; obtain ⟨hc, hf⟩ := bcell hb; have hz := bsize hb)) | (go_at_call 38; (refine (implNewEaster_any _ _).mono ?_; rintro e w' ⟨rfl, hb⟩; obtain ⟨hc, hf⟩ := bcell hb; have hz := bsize hb)))
  go_ret
  exact ⟨rfl, by (repeat' (first | (with_reducible exact Below.refl _ _) | (with_reducible assumption) | (with_reducible refine below_al ?_ _) | (with_reducible refine Below.drew ?_) | (with_reducible refine below_drewN ?_ _) | (with_reducible refine below_tt ?_ (by assumption))))⟩
theorem walk_FnExactIsOldDate (y m d : Int) (_ : I64 y) (_ : I64 m) (_ : I64 d) (w : World) :
    Calls Try.prog 8 #[.agg #[.int .i64 y, .int .i64 m, .int .i64 d]] w (Yes w) := by
  go_enter Try.func8, Try.ntmps8
  go_wp2_with (first | (go_at_call 23; (refine (toDate_any _ _ _ _).mono ?_; rintro e w' ⟨rfl, hb⟩; obtain ⟨hc, hf⟩ := bcell hb; have hz := bsize hb)) | (go_at_call 25; (refine (specIsOldDate_any _ _ _ _).mono ?_; rintro e w' ⟨rfl, hb⟩; obtain ⟨hc, hf⟩ := bcell hb; have hz := bsize hb)) | (go_at_call 26; (refine (implIsOldDate_any _ _ _ _).mono ?_; rintro e w' ⟨rfl, hb⟩; obtain ⟨hc, hf⟩ := bcell hb; have hz := bsize hb)))
  go_ret
  exact ⟨rfl, by (repeat' (first | (with_reducible exact Below.refl _ _) | (with_reducible assumption) | (with_reducible refine below_al ?_ _) | (with_reducible refine Below.drew ?_) | (with_reducible refine below_drewN ?_ _) | (with_reducible refine below_tt ?_ (by assumption))))⟩
theorem walk_FnExactIsNewDate (y m d : Int) (_ : I64 y) (_ : I64 m) (_ : I64 d) (w : World) :
    Calls Try.prog 7 #[.agg #[.int .i64 y, .int .i64 m, .int .i64 d]] w (Yes w) := by
  go_enter Try.func7, Try.ntmps7
  go_wp2_with (first | (go_at_call 23; (refine (toDate_any _ _ _ _).mono ?_; rintro e w' ⟨rfl, hb⟩; obtain ⟨hc, hf⟩ := bcell hb; have hz := bsize hb)) | (go_at_call 22; (refine (specIsNewDate_any _ _ _ _).mono ?_; rintro e w' ⟨rfl, hb⟩; obtain ⟨hc, hf⟩ := bcell hb; have hz := bsize hb)) | (go_at_call 24; (refine (implIsNewDate_any _ _ _ _).mono ?_; rintro e w' ⟨rfl, hb⟩; obtain ⟨hc, hf⟩ := bcell hb; have hz := bsize hb)))
  go_ret
  exact ⟨rfl, by (repeat' (first | (with_reducible exact Below.refl _ _) | (with_reducible assumption) | (with_reducible refine below_al ?_ _) | (with_reducible refine Below.drew ?_) | (with_reducible refine below_drewN ?_ _) | (with_reducible refine below_tt ?_ (by assumption))))⟩
theorem walk_FnExactOldDay (y m d : Int) (_ : I64 y) (_ : I64 m) (_ : I64 d) (w : World) :
    Calls Try.prog 12 #[.agg #[.int .i64 y, .int .i64 m, .int .i64 d]] w (Yes w) := by
  go_enter Try.func12, Try.ntmps12
  go_wp2_with (first | (go_at_call 23; (refine (toDate_any _ _ _ _).mono ?_; rintro e w' ⟨rfl, hb⟩; obtain ⟨hc, hf⟩ := bcell hb; have hz := bsize hb)) | (go_at_call 33; (refine (specOldDay_any _ _ _ _).mono ?_; rintro e w' ⟨rfl, hb⟩; obtain ⟨hc, hf⟩ := bcell hb; have hz := bsize hb)) | (go_at_call 34; (refine (implOldDay_any _ _ _ _).mono ?_; rintro e w' ⟨rfl, hb⟩; obtain ⟨hc, hf⟩ := bcell hb; have hz := bsize hb)))
  go_ret
  exact ⟨rfl, by (repeat' (first | (with_reducible exact Below.refl _ _) | (with_reducible assumption) | (with_reducible refine below_al ?_ _) | (with_reducible refine Below.drew ?_) | (with_reducible refine below_drewN ?_ _) | (with_reducible refine below_tt ?_ (by assumption))))⟩
theorem walk_FnExactNewDay (y m d : Int) (_ : I64 y) (_ : I64 m) (_ : I64 d) (w : World) :
    Calls Try.prog 11 #[.agg #[.int .i64 y, .int .i64 m, .int .i64 d]] w (Yes w) := by
  go_enter Try.func11, Try.ntmps11
  go_wp2_with (first | (go_at_call 23; (refine (toDate_any _ _ _ _).mono ?_; rintro e w' ⟨rfl, hb⟩; obtain ⟨hc, hf⟩ := bcell hb; have hz := bsize hb)) | (go_at_call 31; (refine (specNewDay_any _ _ _ _).mono ?_; rintro e w' ⟨rfl, hb⟩; obtain ⟨hc, hf⟩ := bcell hb; have hz := bsize hb)) | (go_at_call 32; (refine (implNewDay_any _ _ _ _).mono ?_; rintro e w' ⟨rfl, hb⟩; obtain ⟨hc, hf⟩ := bcell hb; have hz := bsize hb)))
  go_ret
  exact ⟨rfl, by (repeat' (first | (with_reducible exact Below.refl _ _) | (with_reducible assumption) | (with_reducible refine below_al ?_ _) | (with_reducible refine Below.drew ?_) | (with_reducible refine below_drewN ?_ _) | (with_reducible refine below_tt ?_ (by assumption))))⟩
theorem walk_FnExactIsCalendar (y : Int) (_ : I64 y) (w : World) :
    Calls Try.prog 4 #[.agg #[.int .i64 y]] w (Yes w) := by
  go_enter Try.func4, Try.ntmps4
  go_wp2_with (first | (go_at_call 16; (refine (toCalendar_any _ _).mono ?_; rintro e w' ⟨rfl, hb⟩; obtain ⟨hc, hf⟩ := bcell hb; have hz := bsize hb)) | (go_at_call 15; (refine (specIsCalendar_any _ _).mono ?_; rintro e w' ⟨rfl, hb⟩; obtain ⟨hc, hf⟩ := bcell hb; have hz := bsize hb)) | (go_at_call 17; (refine (implIsCalendar_any _ _).mono ?_; rintro e w' ⟨rfl, hb⟩; obtain ⟨hc, hf⟩ := bcell hb; have hz := bsize hb)))
  go_ret
  exact ⟨rfl, by (repeat' (first | (with_reducible exact Below.refl _ _) | (with_reducible assumption) | (with_reducible refine below_al ?_ _) | (with_reducible refine Below.drew ?_) | (with_reducible refine below_drewN ?_ _) | (with_reducible refine below_tt ?_ (by assumption))))⟩
end Go.Proofs.Ytoiejdbmjdfdiaa
