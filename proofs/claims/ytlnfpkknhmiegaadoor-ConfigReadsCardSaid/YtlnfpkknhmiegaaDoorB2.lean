/- The examples of the chapter, reckoned. -/
import Derived.Test.YtlnfpkknhmiegaaDoorC1
namespace Go.Proofs.YtlnfpkknhmiegaaDoor
open Go Go.RowKit

theorem itoa60 : Lib.itoa 60 = [54, 48] := by simp [Lib.itoa, Lib.decDigits]
theorem itoa1024 : Lib.itoa 1024 = [49, 48, 50, 52] := by simp [Lib.itoa, Lib.decDigits]
theorem ex_text : textL 60 1024 1024 1024 = [119, 105, 110, 100, 111, 119, 61, 54, 48, 32, 101, 100, 103, 101, 115, 61, 49, 48, 50, 52, 32, 118, 101, 114, 116, 115, 61, 49, 48, 50, 52, 32, 100, 114, 97, 119, 115, 61, 49, 48, 50, 52] := by
  simp [textL, itoa60, itoa1024, pre0, pre1, pre2, pre3]
theorem ex1 : answer (parsed [100, 114, 97, 119, 115, 61, 48, 32, 119, 105, 110, 100, 111, 119, 61, 53]) = (5, 1024, 1024, 0, 0) := by decide +kernel
theorem ex2 : answer (parsed []) = (60, 1024, 1024, 1024, 0) := by decide +kernel
theorem ex3 : answer (parsed [119, 105, 110, 100, 111, 119, 61, 48, 53]) = (0, 0, 0, 0, 15) := by decide +kernel
theorem ex4 : answer (parsed [118, 101, 114, 116, 115, 61, 49]) = (0, 0, 0, 0, 2) := by decide +kernel

theorem parse_any (s : List UInt8) (hl : s.length ≤ 4294967280) (w : World) (hG : G w) :
    Calls Tryd.prog 13 #[.string ⟨s.toArray⟩] w (Answers s w) := by
  by_cases hs : s = []
  · subst hs; exact parse_empty w hG
  · exact parse_some s hs hl w hG
end Go.Proofs.YtlnfpkknhmiegaaDoor
