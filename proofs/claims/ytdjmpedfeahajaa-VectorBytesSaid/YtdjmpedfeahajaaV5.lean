/- What the functions Later and With return, in the form in which a law's walk reads it. -/
import Derived.Test.YtdjmpedfeahajaaV4
namespace Go.Proofs.Ytdjmpedfeahajaa
open Go.RowKit

def laterT (t who t' who' : Int) : Int := if lessB t who t' who' = true then t' else t
def laterW (t who t' who' : Int) : Int := if lessB t who t' who' = true then who' else who
theorem laterV_eq (t who t' who' : Int) : laterV t who t' who' = stamp (laterT t who t' who') (laterW t who t' who') := by
  simp only [laterV, laterT, laterW]; split <;> rfl
def withN (i x : Int) (a b c d e f g h t who : Int) : Int := if isB t who = true then (if who = i then max (get8 who a b c d e f g h) t else x) else x
theorem withV_eq (a b c d e f g h t who : Int) : withV a b c d e f g h t who = vec (withN 0 a a b c d e f g h t who) (withN 1 b a b c d e f g h t who) (withN 2 c a b c d e f g h t who) (withN 3 d a b c d e f g h t who) (withN 4 e a b c d e f g h t who) (withN 5 f a b c d e f g h t who) (withN 6 g a b c d e f g h t who) (withN 7 h a b c d e f g h t who) := by
  simp only [withV, withN, set8]; split <;> rfl
theorem later_any2 (t who t' who' : Int) (w : World) : Calls Try.prog 33 #[stamp t who, stamp t' who'] w (Ret (stamp (laterT t who t' who') (laterW t who t' who')) w) := laterV_eq t who t' who' ▸ later_any t who t' who' w
theorem rlater_any2 (t who t' who' : Int) (w : World) : Calls Try.prog 34 #[stamp t who, stamp t' who'] w (Ret (stamp (laterT t who t' who') (laterW t who t' who')) w) := laterV_eq t who t' who' ▸ rlater_any t who t' who' w
theorem with_any2 (a b c d e f g h t who : Int) (w : World) : Calls Try.prog 37 #[vec a b c d e f g h, stamp t who] w (Ret (vec (withN 0 a a b c d e f g h t who) (withN 1 b a b c d e f g h t who) (withN 2 c a b c d e f g h t who) (withN 3 d a b c d e f g h t who) (withN 4 e a b c d e f g h t who) (withN 5 f a b c d e f g h t who) (withN 6 g a b c d e f g h t who) (withN 7 h a b c d e f g h t who)) w) := withV_eq a b c d e f g h t who ▸ with_any a b c d e f g h t who w
theorem rwith_any2 (a b c d e f g h t who : Int) (w : World) : Calls Try.prog 38 #[vec a b c d e f g h, stamp t who] w (Ret (vec (withN 0 a a b c d e f g h t who) (withN 1 b a b c d e f g h t who) (withN 2 c a b c d e f g h t who) (withN 3 d a b c d e f g h t who) (withN 4 e a b c d e f g h t who) (withN 5 f a b c d e f g h t who) (withN 6 g a b c d e f g h t who) (withN 7 h a b c d e f g h t who)) w) := withV_eq a b c d e f g h t who ▸ rwith_any a b c d e f g h t who w
end Go.Proofs.Ytdjmpedfeahajaa
