/- The order of two values' numbers: the other side. -/
import Derived.Test.YtilmhemcpgiikaaDoorVNi41
import Derived.Test.YtilmhemcpgiikaaDoorVNi4a
import Derived.Test.YtilmhemcpgiikaaDoorVNi4b
import Derived.Test.YtilmhemcpgiikaaDoorVNi61
import Derived.Test.YtilmhemcpgiikaaDoorVNi6a
import Derived.Test.YtilmhemcpgiikaaDoorVNi6b
import Derived.Test.YtilmhemcpgiikaaDoorVNi00
namespace Go.Proofs.YtilmhemcpgiikaaDoor
open Go.Deep Go.ChangeShapes Go.WideShapes Go.ChangeAt Go.RowKit
open Go.ChangeMaps (open_string shut_string)

theorem numI_c (k n x k' m y : Int) (s s' : ByteArray) (a a' : Option Addr) (l c l' c' : Nat) (w : World) (hL : LaidP w) (hn : -9223372036854775808 ≤ n ∧ n ≤ 9223372036854775807) (hm : -9223372036854775808 ≤ m ∧ m ≤ 9223372036854775807) :
    Calls Tryd.prog 133 #[.agg #[.int .i64 k, .int .i64 n, .int .i64 x, .string s, .slice a l c], .agg #[.int .i64 k', .int .i64 m, .int .i64 y, .string s', .slice a' l' c']] w fun e w' => e = .returned (.int .i64 (numC k n x m y)) ∧ Below w.heap.size w w' := by
  by_cases h4 : k = 4
  · subst h4
    cases k1 : fltOkF n x with
    | false => exact numI4a n x k' m y s s' a a' l c l' c' w hL hn hm k1
    | true =>
      cases k2 : fltOkF m y with
      | false => exact numI4b n x k' m y s s' a a' l c l' c' w hL hn hm k1 k2
      | true => exact numI41 n x k' m y s s' a a' l c l' c' w hL hn hm k1 k2
  · by_cases h6 : k = 6
    · subst h6
      cases k1 : decOkB n x with
      | false => exact numI6a n x k' m y s s' a a' l c l' c' w hL hn hm k1
      | true =>
        cases k2 : decOkB m y with
        | false => exact numI6b n x k' m y s s' a a' l c l' c' w hL hn hm k1 k2
        | true => exact numI61 n x k' m y s s' a a' l c l' c' w hL hn hm k1 k2
    · exact numI00 k n x k' m y s s' a a' l c l' c' w hL hn hm h4 h6
end Go.Proofs.YtilmhemcpgiikaaDoor
