/- This file proves the laws' fixed fact of chapter 10: what is hidden is shown, and the hash isn't nought. No conditions. -/
import Derived.Test.YtkoohnpknhoahaaKCpB
set_option linter.all false
namespace Go.Proofs.Ytkoohnpknhoahaa.S2
open Go Go.Sy Sh
noncomputable def pieceX (s p k : List Int) : List Int := sumW s (rnds s k (sched (w16 p) 48) 64)
theorem pieceX_eq : pieceW = pieceX := by funext s p k; rw [pieceW, Lock_eq]; rfl
noncomputable def stX (p kk s : List Int) : Nat → List Int
  | 0 => s
  | j + 1 => pieceX (stX p kk s j) ((p.drop (64 * j)).take 64) kk
theorem stX_eq (p kk s : List Int) : ∀ j, stN p kk s j = stX p kk s j
  | 0 => rfl
  | j + 1 => by
    show pieceW (stN p kk s j) ((p.drop (64 * j)).take 64) kk = pieceX (stX p kk s j) ((p.drop (64 * j)).take 64) kk
    rw [stX_eq, pieceX_eq]
noncomputable def shortX (xs : List Int) : List Int := outB (stX (padT xs) k32 b32 ((padT xs).length / 64))
theorem shortX_eq : shortW = shortX := by funext xs; rw [shortW, Lock_eq, stX_eq]; rfl
end Go.Proofs.Ytkoohnpknhoahaa.S2
namespace Go.Proofs.Ytkoohnpknhoahaa.Kd
open Go Go.Sy Sh
noncomputable def pdWX (key : List Int) (w : Int) : List Int := pdX (pdB (if (key.length : Int) > 64 then S2.shortX key else key)) w
theorem pdWX_eq : pdW = pdWX := by funext key w; rw [pdW, Lock_eq, pdK, S2.shortX_eq]; rfl
noncomputable def tagX (key xs : List Int) : List Int := S2.shortX (pdWX key 92 ++ S2.shortX (pdWX key 54 ++ xs))
theorem tagX_eq : tagW = tagX := by funext key xs; rw [tagW, Lock_eq, pdWX_eq, S2.shortX_eq]; rfl
end Go.Proofs.Ytkoohnpknhoahaa.Kd
namespace Go.Proofs.Ytkoohnpknhoahaa.Ae
open Go Go.Sy Sh
def aS (x y c : Int) : Int := Int.ofNat ((x.toNat + y.toNat + c.toNat) % Extern.MathBitsCarry.m64)
def aC (x y c : Int) : Int := Int.ofNat ((x.toNat + y.toNat + c.toNat) / Extern.MathBitsCarry.m64)
def mH (x y : Int) : Int := IntKind.u64.wrap (IntKind.u64.wrap (IntKind.u64.wrap (shrI .u64 x 32 * shrI .u64 y 32) + shrI .u64 (Fe.mulT x y) 32) +
  shrI .u64 (IntKind.u64.wrap (andI .u64 (Fe.mulT x y) 4294967295 + IntKind.u64.wrap (andI .u64 x 4294967295 * shrI .u64 y 32))) 32)
def mL (x y : Int) : Int := IntKind.u64.wrap (x * y)
theorem aS_eq : Fe.addS = aS := by funext x y c; rw [Fe.addS, Lock_eq]; rfl
theorem aC_eq : Fe.addC = aC := by funext x y c; rw [Fe.addC, Lock_eq]; rfl
theorem mH_eq : Fe.mulH = mH := by funext x y; rw [Fe.mulH, Lock_eq]; rfl
theorem mL_eq : Fe.mulL = mL := by funext x y; rw [Fe.mulL, Lock_eq]; rfl
def at1X (x y : Int) (m : List Int) : List Int := [g m 0, aS (g m 1) (mL x y) 0, aS (g m 2) (mH x y) (aC (g m 1) (mL x y) 0), W (g m 3 + aC (g m 2) (mH x y) (aC (g m 1) (mL x y) 0))]
def at2X (x y : Int) (m : List Int) : List Int := [g m 0, g m 1, aS (g m 2) (mL x y) 0, aS (g m 3) (mH x y) (aC (g m 2) (mL x y) 0)]
theorem at1X_eq : at1 = at1X := by funext x y m; unfold at1 at1X; rw [aS_eq, aC_eq, mH_eq, mL_eq]
theorem at2X_eq : at2 = at2X := by funext x y m; unfold at2 at2X; rw [aS_eq, aC_eq, mH_eq, mL_eq]
def tiX4 (h : List Int) (r s : Int) : List Int := at2X (g h 2) r (at2X (g h 1) s (at1X (g h 1) r (at1X (g h 0) s [mL (g h 0) r, mH (g h 0) r, 0, 0])))
def tiMX (h : List Int) (r s : Int) (m : List Int) : List Int := [g m 0, g m 1, g m 2, W (g m 3 + W (g h 2 * s))]
def rdX (h : List Int) (x y : Int) : List Int := [aS (g h 0) x 0, aS (g h 1) y (aC (g h 0) x 0), W (g h 2 + aC (g h 1) y (aC (g h 0) x 0))]
theorem rdX_eq : rd = rdX := by funext h x y; unfold rd rdX; rw [aS_eq, aC_eq]
def rdMX (m : List Int) : List Int := rdX (rdX [g m 0, g m 1, andI .u64 (g m 2) 3] (andNotI .u64 (g m 2) 3) (g m 3)) (orI .u64 (shrI .u64 (g m 2) 2) (shlI .u64 (g m 3) 62)) (shrI .u64 (g m 3) 2)
def timesX (h : List Int) (r s : Int) : List Int := rdMX (tiMX h r s (tiX4 h r s))
theorem timesX_eq : timesW = timesX := by
  funext h r s
  rw [timesW, Lock_eq]
  unfold rdM tiM ti4 ti3 ti2 ti1 ti0
  rw [rdX_eq, at1X_eq, at2X_eq, mH_eq, mL_eq]
  rfl
def addHX (h p : List Int) : List Int := [aS (g h 0) (lowW (bW p)) 0, aS (g h 1) (lowW (bH p)) (aC (g h 0) (lowW (bW p)) 0), W (g h 2 + W (W ((bW p).getD 16 0) + aC (g h 1) (lowW (bH p)) (aC (g h 0) (lowW (bW p)) 0)))]
def addWX (h p : List Int) (r s : Int) : List Int := timesX (addHX h p) r s
theorem addWX_eq : addW = addWX := by
  funext h p r s
  unfold addW addH
  rw [timesX_eq, aS_eq, aC_eq]
  rfl
def hNX (p : List Int) (r s : Int) : Nat → List Int
  | 0 => [0, 0, 0]
  | j + 1 => addWX (hNX p r s j) ((p.drop (16 * j)).take 16) r s
theorem hNX_eq (p : List Int) (r s : Int) : ∀ j, hN p r s j = hNX p r s j
  | 0 => rfl
  | j + 1 => by
    show addW (hN p r s j) ((p.drop (16 * j)).take 16) r s = addWX (hNX p r s j) ((p.drop (16 * j)).take 16) r s
    rw [hNX_eq, addWX_eq]
def enTX (l : List Int) : Int := W (g l 2 + aC (g l 1) 0 (aC (g l 0) 5 0))
def enAX (l : List Int) : List Int := [aS (g l 0) 5 0, aS (g l 1) 0 (aC (g l 0) 5 0), W (enTX l - 4)]
def enRX (l : List Int) : List Int := if enTX l ≥ 4 then enAX l else l
theorem enRX_eq : enR = enRX := by funext l; unfold enR enA enT; rw [aS_eq, aC_eq]; rfl
def enWX (l key : List Int) : List Int := putW (aS (g l 0) (lowW (k16 key)) 0) ++ putW (aS (g l 1) (lowW (k24 key)) (aC (g l 0) (lowW (k16 key)) 0))
def markX (key xs : List Int) : List Int := enWX (enRX (enRX (hNX xs (r0W key) (r1W key) ((xs.length + 15) / 16)))) key
theorem markX_eq : markW = markX := by
  funext key xs
  rw [markW, Lock_eq]
  unfold endW enW
  rw [hNX_eq, enRX_eq, aS_eq, aC_eq]
  rfl
def pcX (key nonce : List Int) (n : Int) : List Int := Cc.pcO (Cc.s16 key nonce n) (Cc.dbls (Cc.s16 key nonce n) 10)
theorem pcX_eq : Cc.pcW = pcX := by funext key nonce n; rw [Cc.pcW, Lock_eq]; rfl
end Go.Proofs.Ytkoohnpknhoahaa.Ae
namespace Go.Proofs.Ytkoohnpknhoahaa.Cp
open Go Go.Sy Sh
def nm : List Int := [110, 97, 109, 101]
def tx : List Int := [116, 101, 120, 116]
def d0L : List Int := [130, 163, 83, 127, 240, 219, 206, 126, 236, 53, 214, 158, 220, 58, 24, 158, 230, 241, 125, 130, 243, 83, 165, 83, 249, 170, 150, 203, 11, 227, 206, 137]
def t0L : List Int := [116, 150, 221, 217, 40, 70, 52, 158, 246, 67, 88, 132, 137, 41, 250, 195, 49, 239, 186, 5, 75, 157, 100, 230, 68, 196, 51, 215, 91, 78, 213, 197]
def t1L : List Int := [56, 107, 222, 20, 151, 233, 217, 11, 235, 162, 28, 58, 151, 20, 192, 48, 181, 144, 154, 23, 168, 99, 7, 206, 9, 196, 209, 132, 243, 231, 118, 47]
def t2L : List Int := [248, 153, 58, 129, 246, 60, 139, 96, 192, 125, 87, 66, 35, 113, 164, 116, 168, 66, 69, 193, 51, 240, 143, 55, 132, 168, 29, 79, 137, 106, 145, 248]
def p0L : List Int := [19, 24, 31, 54, 169, 103, 200, 22, 191, 79, 232, 157, 63, 153, 44, 123, 97, 185, 59, 154, 228, 50, 154, 221, 28, 125, 9, 225, 160, 80, 162, 130, 30, 60, 47, 222, 123, 78, 253, 23, 45, 19, 93, 107, 109, 34, 227, 69, 122, 194, 147, 120, 248, 218, 178, 169, 246, 165, 77, 31, 14, 143, 65, 125]
def p1L : List Int := [1, 226, 248, 74, 178, 120, 147, 156, 215, 84, 63, 19, 183, 89, 107, 205, 220, 143, 143, 198, 169, 84, 160, 158, 156, 86, 104, 120, 137, 24, 127, 135, 230, 75, 123, 251, 236, 156, 215, 211, 113, 112, 117, 47, 229, 10, 183, 161, 233, 239, 139, 189, 8, 155, 3, 102, 35, 166, 84, 192, 223, 28, 47, 163]
def mxL : List Int := [117, 135, 128, 62]
def mgL : List Int := [130, 163, 83, 127, 240, 219, 206, 126, 236, 53, 214, 158, 220, 58, 24, 158, 230, 241, 125, 130, 243, 83, 165, 83, 249, 170, 150, 203, 11, 227, 206, 137, 117, 135, 128, 62, 0, 0, 0, 0, 0, 0, 0, 0, 0, 0, 0, 0, 32, 0, 0, 0, 0, 0, 0, 0, 4, 0, 0, 0, 0, 0, 0, 0]
def m0L : List Int := [186, 39, 204, 92, 45, 113, 196, 163, 18, 242, 109, 150, 219, 191, 214, 97]
def hAL : List Int := [176, 88, 15, 162, 169, 151, 120, 28, 73, 201, 231, 223, 193, 180, 155, 190, 115, 84, 37, 220, 71, 130, 115, 94, 165, 242, 233, 9, 135, 125, 230, 141]
set_option maxRecDepth 100000 in
theorem d0_eq : S2.shortW nm = d0L := by rw [S2.shortX_eq]; decide +kernel
set_option maxRecDepth 100000 in
theorem t0_eq : Kd.tagW d0L [1] = t0L := by rw [Kd.tagX_eq]; decide +kernel
set_option maxRecDepth 100000 in
theorem t1_eq : Kd.tagW t0L [1] = t1L := by rw [Kd.tagX_eq]; decide +kernel
set_option maxRecDepth 100000 in
theorem t2_eq : Kd.tagW t0L (t1L ++ [2]) = t2L := by rw [Kd.tagX_eq]; decide +kernel
theorem k0_eq : tw2 t0L = t2L := by
  have e1 : Kd.xpS t0L [] 1 = t1L := by
    show Kd.tT t0L [] [] ((0 + 1 : Nat) : Int) = t1L
    rw [← t1_eq]; rfl
  have e2 : Kd.xpS t0L [] 2 = t2L := by
    show Kd.tT t0L (Kd.xpS t0L [] 1) [] ((1 + 1 : Nat) : Int) = t2L
    rw [e1, ← t2_eq]; rfl
  have l1 : t1L.length = 32 := by decide
  have l2 : t2L.length = 32 := by decide
  have e : Kd.expandW t0L [] 64 = t1L ++ t2L := by
    show Kd.xpC t0L [] 1 ++ (Kd.xpS t0L [] (1 + 1)).take 32 = _
    rw [e2, List.take_of_length_le (by omega)]
    show ([] ++ Kd.xpS t0L [] 1) ++ t2L = _
    rw [e1]; rfl
  unfold tw2
  rw [e, List.drop_left' l1]
def no0 : List Int := List.replicate 12 0
theorem no0_eq : Ae.nonceW 0 = no0 := by decide +kernel
set_option maxRecDepth 100000 in
theorem p0_eq : Cc.pcW t2L no0 0 = p0L := by rw [Ae.pcX_eq]; decide +kernel
set_option maxRecDepth 100000 in
theorem p1_eq : Cc.pcW t2L no0 1 = p1L := by rw [Ae.pcX_eq]; decide +kernel
theorem mx_eq : Cc.mixW t2L no0 1 tx = mxL := by
  have e : ∀ i : Nat, i < 4 → Cc.mxF t2L no0 1 tx i = xorI .u8 (tx.getD i 0) (p1L.getD (i % 64) 0) := fun i hi => by
    unfold Cc.mxF
    rw [show i / 64 = 0 by omega, ← p1_eq]; rfl
  show [Cc.mxF t2L no0 1 tx 0, Cc.mxF t2L no0 1 tx 1, Cc.mxF t2L no0 1 tx 2, Cc.mxF t2L no0 1 tx 3] = mxL
  rw [e 0 (by decide), e 1 (by decide), e 2 (by decide), e 3 (by decide)]
  decide +kernel
theorem mg_eq : (Ae.mkT d0L mxL).flatten = mgL := by decide +kernel
set_option maxRecDepth 100000 in
theorem m0_eq : Ae.markW (p0L.take 32) mgL = m0L := by rw [Ae.markX_eq]; decide +kernel
theorem x0_eq : hiW t2L d0L 0 tx = mxL ++ m0L := by
  unfold hiW Ae.sealW Ae.mkW
  rw [no0_eq, mx_eq, p0_eq, mg_eq, m0_eq]
set_option maxRecDepth 100000 in
theorem hA_eq : S2.shortW (d0L ++ (mxL ++ m0L)) = hAL := by rw [S2.shortX_eq]; decide +kernel
end Go.Proofs.Ytkoohnpknhoahaa.Cp
