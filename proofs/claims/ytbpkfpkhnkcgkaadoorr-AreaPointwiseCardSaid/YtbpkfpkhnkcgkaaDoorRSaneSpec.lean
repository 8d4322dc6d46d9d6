/- The chapter's examples, computed: what the area functions give at them. No program, no condition. -/
import Derived.Test.YtbpkfpkhnkcgkaaDoorRWA14
namespace Go.Proofs.YtbpkfpkhnkcgkaaDoorR

def sA : List R4 := [⟨0, 4, 0, 4⟩]
def sB : List R4 := [⟨2, 6, 2, 4⟩]
def sU : List R4 := [⟨0, 4, 0, 2⟩, ⟨0, 6, 2, 4⟩]
def sC : List R4 := [⟨2, 4, 2, 4⟩]
def sM : List R4 := [⟨0, 4, 0, 2⟩, ⟨0, 2, 2, 4⟩]
def sO : List R4 := [⟨0, 8, 0, 4⟩]
def sW : List R4 := [⟨1, 7, 1, 5⟩]
theorem s_union : unionS sA sB = (sU, 0) := by decide +kernel
theorem s_common : commonS sA sB = (sC, 0) := by decide +kernel
theorem s_minus : minusS sA sB = (sM, 0) := by decide +kernel
theorem s_of : ofS [⟨4, 8, 0, 4⟩, ⟨0, 4, 0, 4⟩] = (sO, 0) := by decide +kernel
theorem s_grow : growS sB 1 = (sW, 0) := by decide +kernel
theorem s_bad : ofS [⟨4, 4, 0, 4⟩] = ([], 290) := by decide +kernel
theorem s_far : growS sB 65 = ([], 290) := by decide +kernel
theorem s_sizeA : sizeS sA = 16 := by decide +kernel
theorem s_sizeB : sizeS sB = 8 := by decide +kernel
theorem s_sizeU : sizeS sU = 20 := by decide +kernel
theorem s_has1 : hasA sA 3 3 = true := by decide +kernel
theorem s_has2 : hasA sA 4 3 = false := by decide +kernel
theorem s_in1 : withinS sC sA = true := by decide +kernel
theorem s_in2 : withinS sA sC = false := by decide +kernel
theorem s_valid1 : (openS sA).2 = true := by decide +kernel
theorem s_valid2 : (openS [⟨0, 4, 0, 2⟩, ⟨0, 4, 2, 4⟩]).2 = false := by decide +kernel
end Go.Proofs.YtbpkfpkhnkcgkaaDoorR
