/- The examples with which each statement of the register layer begins: what they come to, reckoned. Plain theory, no condition. -/
import Derived.Test.YtinfpbkbnhcifaaGreatDoorQ21
namespace Go.Proofs.YtinfpbkbnhcifaaGreatDoor

def key2 : ByteArray := ⟨(List.replicate 32 (102 : UInt8)).toArray⟩
def key3 : ByteArray := ⟨(List.replicate 32 (103 : UInt8)).toArray⟩
def sA : ByteArray := ⟨#[97]⟩
def sB : ByteArray := ⟨#[98]⟩
def sC : ByteArray := ⟨#[99]⟩
def sD : ByteArray := ⟨#[100]⟩
def sX : ByteArray := ⟨#[120]⟩
def oneL : List ByteArray := [sA, sB, sC]
def twoL : List ByteArray := [sA, sX, sC]

def pP : PartP := partS key2 2 oneL 3 [0, 2]
def firstP : PartP := partS key2 2 oneL 2 [1]
def secondP : PartP := partS key2 2 twoL 3 [1]
def aP : PartP := partS key2 2 oneL 2 [0]
def bP : PartP := partS key2 2 twoL 3 [0]
def wholeP : PartP := partS key2 2 oneL 3 [0]
def earlyP : PartP := partS key2 2 oneL 1 [0]
def badItem : ItemP := { idx := 2, ent := sD, prf := proofB (oneL.take 3) 2 }
def badP2 : PartP := { head := pP.head, items := [idxItem oneL 3 0, badItem] }
def gOne : List ByteArray := (extB (oneL.take 3) 1 true).reverse
def gTwo : List ByteArray := (extB (twoL.take 3) 1 true).reverse
def gWrong : List ByteArray := (extB (twoL.take 3) 2 true).reverse

theorem one_valid : validB ⟨2, oneL⟩ = true := by decide
theorem two_valid : validB ⟨2, twoL⟩ = true := by decide
theorem key2_size : key2.size = 32 := by decide
set_option maxRecDepth 100000 in
theorem s_bad : checkB key2 badP2 = false := by decide +kernel
set_option maxRecDepth 100000 in
theorem s_ext1 : extendsB key2 earlyP.head pP.head gOne = true := by decide +kernel
set_option maxRecDepth 100000 in
theorem s_ext2 : extendsB key2 earlyP.head secondP.head gTwo = true := by decide +kernel
set_option maxRecDepth 100000 in
theorem s_ext3 : extendsB key2 firstP.head secondP.head gWrong = false := by decide +kernel
set_option maxRecDepth 100000 in
theorem s_conv1 : convictsB key2 firstP secondP = true := by decide +kernel
set_option maxRecDepth 100000 in
theorem s_conv2 : convictsB key2 aP bP = false := by decide +kernel
set_option maxRecDepth 100000 in
theorem s_conv3 : convictsB key2 wholeP bP = true := by decide +kernel
set_option maxRecDepth 100000 in
theorem s_conv4 : convictsB key2 pP firstP = false := by decide +kernel
set_option maxRecDepth 100000 in
theorem s_gen1 : genuineB key2 pP.head = true := by decide +kernel
set_option maxRecDepth 100000 in
theorem s_gen2 : genuineB key3 pP.head = false := by decide +kernel
set_option maxRecDepth 100000 in
theorem s_join1 : joinR key2 [earlyP, pP] = some ([⟨0, sA, []⟩, ⟨2, sC, []⟩], -1, -1) := by decide +kernel
set_option maxRecDepth 100000 in
theorem s_join2 : joinR key2 [earlyP, firstP, secondP] = some ([], 1, 2) := by decide +kernel
theorem s_valid : validB ⟨8, []⟩ = false := by decide
theorem s_grown1 : grownB ⟨2, oneL⟩ 1 3 = some gOne := by decide +kernel
theorem s_grown2 : grownB ⟨2, twoL⟩ 1 3 = some gTwo := by decide +kernel
theorem s_grown3 : grownB ⟨2, twoL⟩ 2 3 = some gWrong := by decide +kernel
end Go.Proofs.YtinfpbkbnhcifaaGreatDoor
