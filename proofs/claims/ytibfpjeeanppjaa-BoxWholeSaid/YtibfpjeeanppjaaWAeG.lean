/- This file says the short digest, tags and Poly1305 once more as plain functions, for the kernel to reckon. No conditions. -/
import Derived.Test.YtibfpjeeanppjaaWKdD
import Derived.Test.YtibfpjeeanppjaaWAeF
set_option linter.all false
namespace Go.Proofs.Ytibfpjeeanppjaa.S2
open Go Go.Sy Sh
noncomputable def pieceX (s p k : List Int) : List Int := sumW s (rnds s k (sched (w16 p) 48) 64)
theorem pieceX_eq : pieceW = pieceX := by funext s p k; rw [pieceW, Lock_eq]; rfl
noncomputable def stX (p kk s : List Int) : Nat → List Int
  | 0 => s
  | j + 1 => pieceX (stX p kk s j) ((p.drop (64 * j)).take 64) kk
theorem stX_eq (p kk s : List Int) : ∀ j, stN p kk s j = stX p kk s j
  | 0 => rfl
  | j + 1 => by
    show pieceW (stN p kk s j) ((p.drop (64 * j)).take 64) kk = pieceX (stX p kk s j) ((p.drop (64 * j)).take 64) kk
    rw [stX_eq, pieceX_eq]
noncomputable def shortX (xs : List Int) : List Int := outB (stX (padT xs) k32 b32 ((padT xs).length / 64))
theorem shortX_eq : shortW = shortX := by funext xs; rw [shortW, Lock_eq, stX_eq]; rfl
end Go.Proofs.Ytibfpjeeanppjaa.S2
namespace Go.Proofs.Ytibfpjeeanppjaa.Kd
open Go Go.Sy Sh
noncomputable def pdWX (key : List Int) (w : Int) : List Int := pdX (pdB (if (key.length : Int) > 64 then S2.shortX key else key)) w
theorem pdWX_eq : pdW = pdWX := by funext key w; rw [pdW, Lock_eq, pdK, S2.shortX_eq]; rfl
noncomputable def tagX (key xs : List Int) : List Int := S2.shortX (pdWX key 92 ++ S2.shortX (pdWX key 54 ++ xs))
theorem tagX_eq : tagW = tagX := by funext key xs; rw [tagW, Lock_eq, pdWX_eq, S2.shortX_eq]; rfl
end Go.Proofs.Ytibfpjeeanppjaa.Kd
namespace Go.Proofs.Ytibfpjeeanppjaa.Ae
open Go Go.Sy Sh
def aS (x y c : Int) : Int := Int.ofNat ((x.toNat + y.toNat + c.toNat) % Extern.MathBitsCarry.m64)
def aC (x y c : Int) : Int := Int.ofNat ((x.toNat + y.toNat + c.toNat) / Extern.MathBitsCarry.m64)
def mH (x y : Int) : Int := IntKind.u64.wrap (IntKind.u64.wrap (IntKind.u64.wrap (shrI .u64 x 32 * shrI .u64 y 32) + shrI .u64 (Fe.mulT x y) 32) +
  shrI .u64 (IntKind.u64.wrap (andI .u64 (Fe.mulT x y) 4294967295 + IntKind.u64.wrap (andI .u64 x 4294967295 * shrI .u64 y 32))) 32)
def mL (x y : Int) : Int := IntKind.u64.wrap (x * y)
theorem aS_eq : Fe.addS = aS := by funext x y c; rw [Fe.addS, Lock_eq]; rfl
theorem aC_eq : Fe.addC = aC := by funext x y c; rw [Fe.addC, Lock_eq]; rfl
theorem mH_eq : Fe.mulH = mH := by funext x y; rw [Fe.mulH, Lock_eq]; rfl
theorem mL_eq : Fe.mulL = mL := by funext x y; rw [Fe.mulL, Lock_eq]; rfl
def at1X (x y : Int) (m : List Int) : List Int := [g m 0, aS (g m 1) (mL x y) 0, aS (g m 2) (mH x y) (aC (g m 1) (mL x y) 0), W (g m 3 + aC (g m 2) (mH x y) (aC (g m 1) (mL x y) 0))]
def at2X (x y : Int) (m : List Int) : List Int := [g m 0, g m 1, aS (g m 2) (mL x y) 0, aS (g m 3) (mH x y) (aC (g m 2) (mL x y) 0)]
theorem at1X_eq : at1 = at1X := by funext x y m; unfold at1 at1X; rw [aS_eq, aC_eq, mH_eq, mL_eq]
theorem at2X_eq : at2 = at2X := by funext x y m; unfold at2 at2X; rw [aS_eq, aC_eq, mH_eq, mL_eq]
def tiX4 (h : List Int) (r s : Int) : List Int := at2X (g h 2) r (at2X (g h 1) s (at1X (g h 1) r (at1X (g h 0) s [mL (g h 0) r, mH (g h 0) r, 0, 0])))
def tiMX (h : List Int) (r s : Int) (m : List Int) : List Int := [g m 0, g m 1, g m 2, W (g m 3 + W (g h 2 * s))]
def rdX (h : List Int) (x y : Int) : List Int := [aS (g h 0) x 0, aS (g h 1) y (aC (g h 0) x 0), W (g h 2 + aC (g h 1) y (aC (g h 0) x 0))]
theorem rdX_eq : rd = rdX := by funext h x y; unfold rd rdX; rw [aS_eq, aC_eq]
def rdMX (m : List Int) : List Int := rdX (rdX [g m 0, g m 1, andI .u64 (g m 2) 3] (andNotI .u64 (g m 2) 3) (g m 3)) (orI .u64 (shrI .u64 (g m 2) 2) (shlI .u64 (g m 3) 62)) (shrI .u64 (g m 3) 2)
def timesX (h : List Int) (r s : Int) : List Int := rdMX (tiMX h r s (tiX4 h r s))
theorem timesX_eq : timesW = timesX := by
  funext h r s
  rw [timesW, Lock_eq]
  unfold rdM tiM ti4 ti3 ti2 ti1 ti0
  rw [rdX_eq, at1X_eq, at2X_eq, mH_eq, mL_eq]
  rfl
def addHX (h p : List Int) : List Int := [aS (g h 0) (lowW (bW p)) 0, aS (g h 1) (lowW (bH p)) (aC (g h 0) (lowW (bW p)) 0), W (g h 2 + W (W ((bW p).getD 16 0) + aC (g h 1) (lowW (bH p)) (aC (g h 0) (lowW (bW p)) 0)))]
def addWX (h p : List Int) (r s : Int) : List Int := timesX (addHX h p) r s
theorem addWX_eq : addW = addWX := by
  funext h p r s
  unfold addW addH
  rw [timesX_eq, aS_eq, aC_eq]
  rfl
def hNX (p : List Int) (r s : Int) : Nat → List Int
  | 0 => [0, 0, 0]
  | j + 1 => addWX (hNX p r s j) ((p.drop (16 * j)).take 16) r s
theorem hNX_eq (p : List Int) (r s : Int) : ∀ j, hN p r s j = hNX p r s j
  | 0 => rfl
  | j + 1 => by
    show addW (hN p r s j) ((p.drop (16 * j)).take 16) r s = addWX (hNX p r s j) ((p.drop (16 * j)).take 16) r s
    rw [hNX_eq, addWX_eq]
def enTX (l : List Int) : Int := W (g l 2 + aC (g l 1) 0 (aC (g l 0) 5 0))
def enAX (l : List Int) : List Int := [aS (g l 0) 5 0, aS (g l 1) 0 (aC (g l 0) 5 0), W (enTX l - 4)]
def enRX (l : List Int) : List Int := if enTX l ≥ 4 then enAX l else l
theorem enRX_eq : enR = enRX := by funext l; unfold enR enA enT; rw [aS_eq, aC_eq]; rfl
def enWX (l key : List Int) : List Int := putW (aS (g l 0) (lowW (k16 key)) 0) ++ putW (aS (g l 1) (lowW (k24 key)) (aC (g l 0) (lowW (k16 key)) 0))
def markX (key xs : List Int) : List Int := enWX (enRX (enRX (hNX xs (r0W key) (r1W key) ((xs.length + 15) / 16)))) key
theorem markX_eq : markW = markX := by
  funext key xs
  rw [markW, Lock_eq]
  unfold endW enW
  rw [hNX_eq, enRX_eq, aS_eq, aC_eq]
  rfl
def pcX (key nonce : List Int) (n : Int) : List Int := Cc.pcO (Cc.s16 key nonce n) (Cc.dbls (Cc.s16 key nonce n) 10)
theorem pcX_eq : Cc.pcW = pcX := by funext key nonce n; rw [Cc.pcW, Lock_eq]; rfl
end Go.Proofs.Ytibfpjeeanppjaa.Ae
namespace Go.Proofs.Ytibfpjeeanppjaa.Cp
open Go Go.Sy Sh
def no0 : List Int := List.replicate 12 0
theorem no0_eq : Ae.nonceW 0 = no0 := by decide +kernel
end Go.Proofs.Ytibfpjeeanppjaa.Cp
