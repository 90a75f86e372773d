/- This file proves chapter 16's fixed fact's last part: with another info the mark is another one. No conditions. -/
import Derived.Test.YtibfpjeeanppjaaGreatVBxG
set_option linter.all false
namespace Go.Proofs.YtibfpjeeanppjaaGreat.Bx
open Go Go.Sy Sh La Fe
def comL : List Int := [30, 120, 225, 25, 70, 53, 0, 181, 187, 240, 139, 164, 107, 200, 150, 198, 231, 213, 58, 121, 93, 151, 200, 204, 125, 137, 245, 228, 119, 182, 16, 67]
def pdL : List Int := [75, 167, 92, 4, 235, 2, 129, 151, 111, 214, 25, 118, 83, 242, 225, 68, 65, 139, 5, 133, 125, 250, 119, 53, 83, 142, 245, 188, 151, 71, 244, 22]
def poL : List Int := [251, 120, 25, 176, 130, 97, 251, 43, 23, 163, 92, 192, 216, 46, 71, 181, 40, 107, 19, 28, 33, 17, 184, 37, 189, 133, 216, 196, 187, 79, 220, 31]
def shI : List Int := [222, 125, 27, 114, 26, 30, 6, 50, 183, 207, 4, 237, 245, 3, 44, 142, 207, 250, 159, 154, 8, 73, 33, 82, 185, 38, 241, 165, 167, 231, 101, 215]
def shJ : List Int := [24, 159, 64, 3, 75, 231, 161, 153, 241, 250, 152, 145, 102, 142, 227, 171, 96, 73, 248, 45, 56, 198, 139, 231, 15, 89, 110, 171, 46, 24, 87, 183]
def tgL : List Int := [53, 76, 129, 179, 9, 221, 161, 25, 69, 203, 87, 51, 255, 201, 214, 91, 238, 97, 64, 100, 132, 92, 226, 204, 166, 104, 31, 114, 147, 181, 244, 72]
def kIL : List Int := [197, 97, 98, 37, 202, 179, 40, 126, 44, 7, 72, 182, 86, 38, 207, 38, 224, 223, 44, 235, 119, 99, 139, 91, 39, 23, 135, 32, 65, 142, 46, 206]
def kJL : List Int := [169, 83, 102, 113, 160, 140, 170, 8, 184, 232, 206, 18, 246, 188, 191, 143, 152, 69, 178, 178, 166, 246, 10, 209, 219, 204, 194, 155, 157, 59, 140, 28]
def pI0 : List Int := [232, 19, 62, 83, 75, 164, 158, 20, 127, 114, 26, 120, 41, 44, 222, 252, 11, 220, 231, 161, 75, 170, 46, 144, 115, 109, 74, 54, 21, 194, 165, 83, 23, 112, 138, 83, 56, 104, 242, 12, 194, 113, 56, 108, 190, 22, 196, 62, 63, 136, 149, 152, 173, 12, 31, 142, 158, 85, 229, 6, 154, 248, 185, 121]
def pJ0 : List Int := [11, 92, 95, 131, 255, 157, 103, 210, 23, 51, 208, 191, 203, 32, 156, 79, 195, 204, 29, 37, 215, 206, 18, 103, 189, 16, 204, 159, 31, 42, 192, 119, 55, 175, 194, 64, 208, 220, 244, 110, 172, 164, 178, 108, 182, 230, 207, 70, 215, 41, 110, 75, 80, 119, 67, 107, 188, 101, 48, 179, 82, 224, 17, 1]
def pI1 : List Int := [197, 42, 181, 88, 189, 255, 37, 210, 75, 122, 165, 0, 100, 57, 51, 176, 255, 255, 169, 155, 66, 157, 224, 90, 60, 219, 48, 59, 111, 105, 231, 126, 133, 199, 1, 156, 1, 210, 0, 4, 173, 146, 26, 152, 126, 120, 134, 78, 70, 228, 129, 171, 244, 239, 206, 98, 146, 136, 57, 47, 101, 49, 101, 117]
def mxI : List Int := [177, 79, 205, 44]
def mgI : List Int := [105, 0, 0, 0, 0, 0, 0, 0, 0, 0, 0, 0, 0, 0, 0, 0, 177, 79, 205, 44, 0, 0, 0, 0, 0, 0, 0, 0, 0, 0, 0, 0, 1, 0, 0, 0, 0, 0, 0, 0, 4, 0, 0, 0, 0, 0, 0, 0]
def mgJ : List Int := [106, 0, 0, 0, 0, 0, 0, 0, 0, 0, 0, 0, 0, 0, 0, 0, 177, 79, 205, 44, 0, 0, 0, 0, 0, 0, 0, 0, 0, 0, 0, 0, 1, 0, 0, 0, 0, 0, 0, 0, 4, 0, 0, 0, 0, 0, 0, 0]
def mIL : List Int := [25, 116, 186, 12, 8, 35, 129, 49, 31, 19, 127, 215, 85, 142, 108, 18]
def mJL : List Int := [13, 117, 241, 234, 6, 117, 67, 176, 57, 122, 203, 24, 122, 154, 222, 198]
def inI : List Int := [0, 32, 3, 98, 111, 120, 0, 0, 0, 96, 75, 167, 92, 4, 235, 2, 129, 151, 111, 214, 25, 118, 83, 242, 225, 68, 65, 139, 5, 133, 125, 250, 119, 53, 83, 142, 245, 188, 151, 71, 244, 22, 251, 120, 25, 176, 130, 97, 251, 43, 23, 163, 92, 192, 216, 46, 71, 181, 40, 107, 19, 28, 33, 17, 184, 37, 189, 133, 216, 196, 187, 79, 220, 31, 222, 125, 27, 114, 26, 30, 6, 50, 183, 207, 4, 237, 245, 3, 44, 142, 207, 250, 159, 154, 8, 73, 33, 82, 185, 38, 241, 165, 167, 231, 101, 215, 1]
def inJ : List Int := [0, 32, 3, 98, 111, 120, 0, 0, 0, 96, 75, 167, 92, 4, 235, 2, 129, 151, 111, 214, 25, 118, 83, 242, 225, 68, 65, 139, 5, 133, 125, 250, 119, 53, 83, 142, 245, 188, 151, 71, 244, 22, 251, 120, 25, 176, 130, 97, 251, 43, 23, 163, 92, 192, 216, 46, 71, 181, 40, 107, 19, 28, 33, 17, 184, 37, 189, 133, 216, 196, 187, 79, 220, 31, 24, 159, 64, 3, 75, 231, 161, 153, 241, 250, 152, 145, 102, 142, 227, 171, 96, 73, 248, 45, 56, 198, 139, 231, 15, 89, 110, 171, 46, 24, 87, 183, 1]
set_option maxRecDepth 100000
theorem com_l : digN 32 comS = comL := by decide +kernel
theorem pd_l : digN 32 pubD = pdL := by decide +kernel
theorem po_l : digN 32 pubO = poL := by decide +kernel
theorem shI_eq : S2.shortW [iL].flatten = shI := by rw [S2.shortX_eq]; decide +kernel
theorem shJ_eq : S2.shortW [jL].flatten = shJ := by rw [S2.shortX_eq]; decide +kernel
theorem tg_eq : Kd.tagW [] comL = tgL := by rw [Kd.tagX_eq]; decide +kernel
theorem kt_i : Kd.tagW tgL inI = kIL := by rw [Kd.tagX_eq]; decide +kernel
theorem kt_j : Kd.tagW tgL inJ = kJL := by rw [Kd.tagX_eq]; decide +kernel
theorem in_i : Q2.xqM (Kd.infW bxL [pdL, poL, shI].flatten 32) = inI := by decide +kernel
theorem in_j : Q2.xqM (Kd.infW bxL [pdL, poL, shJ].flatten 32) = inJ := by decide +kernel
theorem kI_eq : kI = kIL := by
  unfold kI keyW
  rw [Lock_eq, lbW, ag_drw, Kd.labelW, cxW, pd_eq, po_eq, com_l, pd_l, po_l, shI_eq, tg_eq]
  show Kd.expandW tgL (Kd.infW bxL [pdL, poL, shI].flatten 32) 32 = kIL
  rw [Q2.expand32, in_i, kt_i]
theorem kJ_eq : opK ownK (ladW ownK 9) jL bxT = kJL := by
  unfold opK keyW
  rw [drW_eq, bxT_take, Lock_eq, lbW, ag_own, Kd.labelW, cxW, pd_eq, po_eq, com_l, pd_l, po_l, shJ_eq, tg_eq]
  show Kd.expandW tgL (Kd.infW bxL [pdL, poL, shJ].flatten 32) 32 = kJL
  rw [Q2.expand32, in_j, kt_j]
theorem pI0_eq : Cc.pcW kIL Cp.no0 0 = pI0 := by rw [Ae.pcX_eq]; decide +kernel
theorem pJ0_eq : Cc.pcW kJL Cp.no0 0 = pJ0 := by rw [Ae.pcX_eq]; decide +kernel
theorem pI1_eq : Cc.pcW kIL Cp.no0 1 = pI1 := by rw [Ae.pcX_eq]; decide +kernel
theorem mx_eq : Cc.mixW kIL Cp.no0 1 teL = mxI := by
  have e : ∀ i : Nat, i < 4 → Cc.mxF kIL Cp.no0 1 teL i = xorI .u8 (teL.getD i 0) (pI1.getD (i % 64) 0) := fun i hi => by
    unfold Cc.mxF
    rw [show i / 64 = 0 by omega, ← pI1_eq]; rfl
  show [Cc.mxF kIL Cp.no0 1 teL 0, Cc.mxF kIL Cp.no0 1 teL 1, Cc.mxF kIL Cp.no0 1 teL 2, Cc.mxF kIL Cp.no0 1 teL 3] = mxI
  rw [e 0 (by decide), e 1 (by decide), e 2 (by decide), e 3 (by decide)]
  decide +kernel
theorem mgI_eq : (Ae.mkT iL mxI).flatten = mgI := by decide +kernel
theorem mgJ_eq : (Ae.mkT jL mxI).flatten = mgJ := by decide +kernel
theorem mI_eq : Ae.markW (pI0.take 32) mgI = mIL := by rw [Ae.markX_eq]; decide +kernel
theorem mJ_eq : Ae.markW (pJ0.take 32) mgJ = mJL := by rw [Ae.markX_eq]; decide +kernel
theorem seal_eq : Ae.sealW kIL Cp.no0 iL teL = mxI ++ mIL := by
  unfold Ae.sealW Ae.mkW
  rw [mx_eq, pI0_eq, mgI_eq, mI_eq]
theorem open_j : Ae.openB (opK ownK (ladW ownK 9) jL bxT) (Ae.nonceW 0) jL (bxT.drop 32) = false := by
  rw [kJ_eq, bxT_drop, kI_eq, Cp.no0_eq, seal_eq]
  unfold Ae.openB
  rw [show (mxI ++ mIL).take ((mxI ++ mIL).length - 16) = mxI by decide, show (mxI ++ mIL).drop ((mxI ++ mIL).length - 16) = mIL by decide]
  unfold Ae.mkW
  rw [pJ0_eq, mgJ_eq, mJ_eq]
  decide
end Go.Proofs.YtibfpjeeanppjaaGreat.Bx
