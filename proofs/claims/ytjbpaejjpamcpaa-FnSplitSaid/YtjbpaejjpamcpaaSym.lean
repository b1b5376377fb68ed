/- The signs of the reckoner: what the functions on boxes and exact numbers give, as plain arithmetic. No program in sight. -/
import Derived.Test.YtjbpaejjpamcpaaBoM
import Derived.Test.YtjbpaejjpamcpaaMDy
import Derived.Test.YtjbpaejjpamcpaaEng
import Derived.Test.YtjbpaejjpamcpaaMFl
import Derived.Lib.BitFns
import Derived.Lib.TrailingZeros
namespace Go.Proofs.Ytjbpaejjpamcpaa
set_option linter.unusedSimpArgs false
set_option linter.unusedVariables false

/-! ### Intervals -/
def mulLo (a b c d : Int) : Int := min (min (min (a * c) (a * d)) (b * c)) (b * d)
def mulHi (a b c d : Int) : Int := max (max (max (a * c) (a * d)) (b * c)) (b * d)
def sqLo (l h : Int) : Int := if l ≤ 0 ∧ 0 ≤ h then 0 else min (l * l) (h * h)
def sqHi (l h : Int) : Int := max (l * l) (h * h)
/-- Over a number, rounded down and up. -/
def fl (n d : Int) : Int := n / d
def ce (n d : Int) : Int := -(-n / d)

/-! ### Boxes -/
def sq0 (a b c d : Int) : Int := fl (sqLo a b - sqHi c d) 16777216
def sq1 (a b c d : Int) : Int := ce (sqHi a b - sqLo c d) 16777216
def sq2 (a b c d : Int) : Int := fl (2 * mulLo a b c d) 16777216
def sq3 (a b c d : Int) : Int := ce (2 * mulHi a b c d) 16777216
/-- The box of the squares is there. -/
def SQB (a b c d : Int) : Bool := BV a b c d && BV (sq0 a b c d) (sq1 a b c d) (sq2 a b c d) (sq3 a b c d)
def ADB (a b c d x y z u : Int) : Bool := BV a b c d && BV x y z u && BV (a + x) (b + y) (c + z) (d + u)
def NLo (a b c d : Int) : Int := sqLo a b + sqLo c d
def NHi (a b c d : Int) : Int := sqHi a b + sqHi c d
/-- The bound of the cardioid, of the disc. -/
def cuL (a : Int) : Int := fl a 4096 - 1024
def cuH (b : Int) : Int := ce b 4096 - 1024
def cyL (c d : Int) : Int := sqLo (fl c 4096) (ce d 4096)
def cyH (c d : Int) : Int := sqHi (fl c 4096) (ce d 4096)
def cqL (a b c d : Int) : Int := sqLo (cuL a) (cuH b) + cyL c d
def cqH (a b c d : Int) : Int := sqHi (cuL a) (cuH b) + cyH c d
def cS (a b c d : Int) : Int := cqH a b c d + cuH b * 4096
def CBD (a b c d : Int) : Int := (if cS a b c d < 0 then cqL a b c d else cqH a b c d) * cS a b c d - cyL c d * 4194304
def DBD (a b c d : Int) : Int := sqHi (fl a 4096 + 4096) (ce b 4096 + 4096) + cyH c d - 1048576
/-- An exact number's part in steps, rounded down and up. -/
def FLq (n s : Int) : Int := n * 16777216 / 2 ^ s.toNat
def CEq (n s : Int) : Int := -(-(n * 16777216) / 2 ^ s.toNat)
def BH (a b c d r i s : Int) : Bool := BV a b c d && DV r i s && SW (FLq r s) (CEq r s) a b && SW (FLq i s) (CEq i s) c d
def BW (a b c d x y z u : Int) : Bool := BV a b c d && BV x y z u && SW a b x y && SW c d z u

def le30 (x : Int) : Bool := decide (-1073741824 ≤ x) && decide (x ≤ 1073741824)
def le60 (x : Int) : Bool := decide (-1152921504606846976 ≤ x) && decide (x ≤ 1152921504606846976)

/-! ### The boxes of an orbit -/
def nlo (a b c d : Int) : Int := if BV a b c d then NLo a b c d else 0
def nhi (a b c d : Int) : Int := if BV a b c d then NHi a b c d else 0
def qq0 (a b c d : Int) : Int := if SQB a b c d then sq0 a b c d else 0
def qq1 (a b c d : Int) : Int := if SQB a b c d then sq1 a b c d else 0
def qq2 (a b c d : Int) : Int := if SQB a b c d then sq2 a b c d else 0
def qq3 (a b c d : Int) : Int := if SQB a b c d then sq3 a b c d else 0
def aa0 (a b c d x y z u : Int) : Int := if ADB a b c d x y z u then a + x else 0
def aa1 (a b c d x y z u : Int) : Int := if ADB a b c d x y z u then b + y else 0
def aa2 (a b c d x y z u : Int) : Int := if ADB a b c d x y z u then c + z else 0
def aa3 (a b c d x y z u : Int) : Int := if ADB a b c d x y z u then d + u else 0
/-- The greatest index that is looked at. -/
def lst (m : Int) : Int := max 0 (min 400 m)
/-- Where the boxes of an orbit escape: how it ends (0: within the walk, 1: at its last index), the first index where it partly, where it wholly escapes (-1: nowhere). -/
def esc (m c0 c1 c2 c3 : Int) : Nat → Int → Int → Int → Int → Int → Int → Nat × Int × Int
  | 0, f, _, _, _, _, _ => (1, f, -1)
  | n + 1, f, k, z0, z1, z2, z3 =>
    if k ≤ lst m then
      if 1125899906842624 < nlo z0 z1 z2 z3 then (0, if f < 0 ∧ 1125899906842624 < nhi z0 z1 z2 z3 then k else f, k)
      else if SQB z0 z1 z2 z3 && ADB (qq0 z0 z1 z2 z3) (qq1 z0 z1 z2 z3) (qq2 z0 z1 z2 z3) (qq3 z0 z1 z2 z3) c0 c1 c2 c3 then
        esc m c0 c1 c2 c3 n (if f < 0 ∧ 1125899906842624 < nhi z0 z1 z2 z3 then k else f) (k + 1) (aa0 (qq0 z0 z1 z2 z3) (qq1 z0 z1 z2 z3) (qq2 z0 z1 z2 z3) (qq3 z0 z1 z2 z3) c0 c1 c2 c3) (aa1 (qq0 z0 z1 z2 z3) (qq1 z0 z1 z2 z3) (qq2 z0 z1 z2 z3) (qq3 z0 z1 z2 z3) c0 c1 c2 c3)
          (aa2 (qq0 z0 z1 z2 z3) (qq1 z0 z1 z2 z3) (qq2 z0 z1 z2 z3) (qq3 z0 z1 z2 z3) c0 c1 c2 c3) (aa3 (qq0 z0 z1 z2 z3) (qq1 z0 z1 z2 z3) (qq2 z0 z1 z2 z3) (qq3 z0 z1 z2 z3) c0 c1 c2 c3)
      else (0, if f < 0 ∧ 1125899906842624 < nhi z0 z1 z2 z3 then k else f, -1)
    else (1, f, -1)
/-- Both indexes of a box. -/
def escP (a b c d m : Int) : Int := (esc m a b c d 402 (-1) 0 0 0 0 0).2.1
def escW (a b c d m : Int) : Int := (esc m a b c d 402 (-1) 0 0 0 0 0).2.2
/-- The state of a box. -/
def CST (a b c d m : Int) : Int := if CBD a b c d ≤ 0 ∨ DBD a b c d ≤ 0 then 1 else if 0 ≤ escW a b c d m then -1 else 0

/-- The numbers of the k-th quarter of a box. -/
def qv (j : Nat) (a b c d k : Int) : Int :=
  match j with
  | 0 => if k = 1 ∨ k = 3 then fl (a + b) 2 else a
  | 1 => if k = 1 ∨ k = 3 then b else fl (a + b) 2
  | 2 => if k = 2 ∨ k = 3 then fl (c + d) 2 else c
  | _ => if k = 2 ∨ k = 3 then d else fl (c + d) 2
/-- How many of the boxes from cutting n times are in (0), out (1), open (2). -/
def cdv (j : Nat) : Nat → Int → Int → Int → Int → Int → Int
  | 0, a, b, c, d, m => if CST a b c d m = 1 then (if j = 0 then 1 else 0) else if CST a b c d m = -1 then (if j = 1 then 1 else 0) else if j = 2 then 1 else 0
  | n + 1, a, b, c, d, m => if CST a b c d m = 1 then (if j = 0 then 4 ^ (n + 1) else 0) else if CST a b c d m = -1 then (if j = 1 then 4 ^ (n + 1) else 0) else
    cdv j n a (fl (a + b) 2) c (fl (c + d) 2) m + cdv j n (fl (a + b) 2) b c (fl (c + d) 2) m + cdv j n a (fl (a + b) 2) (fl (c + d) 2) d m + cdv j n (fl (a + b) 2) b (fl (c + d) 2) d m
/-- A number to which another is added, where there is one to add. -/
def gAdd (c z : Int) : Int := if z = 0 then c else IntKind.i64.wrap (c + z)
/-! ### Exact orbits -/
def dq0 (r i s : Int) : Int := if SQ r i s then lR (SR r i) (SI r i) (2 * s) else 0
def dq1 (r i s : Int) : Int := if SQ r i s then lI (SR r i) (SI r i) (2 * s) else 0
def dq2 (r i s : Int) : Int := if SQ r i s then lS (SR r i) (SI r i) (2 * s) else 0
def da0 (r i s x y t : Int) : Int := if ADD r i s x y t then lR (AP r s x t) (AP i s y t) (max s t) else 0
def da1 (r i s x y t : Int) : Int := if ADD r i s x y t then lI (AP r s x t) (AP i s y t) (max s t) else 0
def da2 (r i s x y t : Int) : Int := if ADD r i s x y t then lS (AP r s x t) (AP i s y t) (max s t) else 0
/-- Number k of the orbit (0 behind its end). -/
def oz (a b c : Int) : Nat → Int × Int × Int
  | 0 => (0, 0, 0)
  | k + 1 => (da0 (dq0 (oz a b c k).1 (oz a b c k).2.1 (oz a b c k).2.2) (dq1 (oz a b c k).1 (oz a b c k).2.1 (oz a b c k).2.2) (dq2 (oz a b c k).1 (oz a b c k).2.1 (oz a b c k).2.2) a b c,
      da1 (dq0 (oz a b c k).1 (oz a b c k).2.1 (oz a b c k).2.2) (dq1 (oz a b c k).1 (oz a b c k).2.1 (oz a b c k).2.2) (dq2 (oz a b c k).1 (oz a b c k).2.1 (oz a b c k).2.2) a b c,
      da2 (dq0 (oz a b c k).1 (oz a b c k).2.1 (oz a b c k).2.2) (dq1 (oz a b c k).1 (oz a b c k).2.1 (oz a b c k).2.2) (dq2 (oz a b c k).1 (oz a b c k).2.1 (oz a b c k).2.2) a b c)
def ook (a b c : Int) (k : Nat) : Bool := SQ (oz a b c k).1 (oz a b c k).2.1 (oz a b c k).2.2 &&
  ADD (dq0 (oz a b c k).1 (oz a b c k).2.1 (oz a b c k).2.2) (dq1 (oz a b c k).1 (oz a b c k).2.1 (oz a b c k).2.2) (dq2 (oz a b c k).1 (oz a b c k).2.1 (oz a b c k).2.2) a b c
/-- So many numbers there are, where k are there already and n more are asked for. -/
def olen (a b c : Int) : Nat → Nat → Nat
  | 0, k => k
  | n + 1, k => if ook a b c k then olen a b c n (k + 1) else k + 1
def OV (a b c n : Int) : Bool := DV a b c && (decide (0 ≤ n) && decide (n ≤ 40))
/-! ### Orbits of boxes -/
def bz (a b c d : Int) : Nat → Int × Int × Int × Int
  | 0 => (0, 0, 0, 0)
  | k + 1 =>
    let z := bz a b c d k
    let q0 := qq0 z.1 z.2.1 z.2.2.1 z.2.2.2
    let q1 := qq1 z.1 z.2.1 z.2.2.1 z.2.2.2
    let q2 := qq2 z.1 z.2.1 z.2.2.1 z.2.2.2
    let q3 := qq3 z.1 z.2.1 z.2.2.1 z.2.2.2
    (aa0 q0 q1 q2 q3 a b c d, aa1 q0 q1 q2 q3 a b c d, aa2 q0 q1 q2 q3 a b c d, aa3 q0 q1 q2 q3 a b c d)
def bok (a b c d : Int) (k : Nat) : Bool :=
  let z := bz a b c d k
  SQB z.1 z.2.1 z.2.2.1 z.2.2.2 && ADB (qq0 z.1 z.2.1 z.2.2.1 z.2.2.2) (qq1 z.1 z.2.1 z.2.2.1 z.2.2.2) (qq2 z.1 z.2.1 z.2.2.1 z.2.2.2) (qq3 z.1 z.2.1 z.2.2.1 z.2.2.2) a b c d
def blen (a b c d : Int) : Nat → Nat → Nat
  | 0, k => k
  | n + 1, k => if bok a b c d k then blen a b c d n (k + 1) else k + 1
def BO (a b c d n : Int) : Bool := BV a b c d && (decide (0 ≤ n) && decide (n ≤ 400))

/-! ### Numbers in a box; boxes cut -/
def pk3 (x y k : Int) : Int := if k = 0 then x else if k = 1 then y else x + (y - x) / 3
def in0 (a b c d k : Int) : Int := if MK (pk3 a b (k / 3)) (pk3 c d (k % 3)) 24 then lR (pk3 a b (k / 3)) (pk3 c d (k % 3)) 24 else 0
def in1 (a b c d k : Int) : Int := if MK (pk3 a b (k / 3)) (pk3 c d (k % 3)) 24 then lI (pk3 a b (k / 3)) (pk3 c d (k % 3)) 24 else 0
def in2 (a b c d k : Int) : Int := if MK (pk3 a b (k / 3)) (pk3 c d (k % 3)) 24 then lS (pk3 a b (k / 3)) (pk3 c d (k % 3)) 24 else 0
def CSV (a b c d m : Int) : Int := if BV a b c d then CST a b c d m else 0
/-- How many boxes, cut n times, are surely in, surely out, open. -/
def cdp (m : Int) (j : Nat) : Nat → Int → Int → Int → Int → Int
  | 0, a, b, c, d => if CSV a b c d m = 1 then (if j = 0 then 1 else 0) else if CSV a b c d m = -1 then (if j = 1 then 1 else 0) else (if j = 2 then 1 else 0)
  | n + 1, a, b, c, d => if CSV a b c d m = 1 then (if j = 0 then 4 ^ (n + 1) else 0) else if CSV a b c d m = -1 then (if j = 1 then 4 ^ (n + 1) else 0) else
      cdp m j n a ((a + b) / 2) c ((c + d) / 2) + cdp m j n ((a + b) / 2) b c ((c + d) / 2) + cdp m j n a ((a + b) / 2) ((c + d) / 2) d + cdp m j n ((a + b) / 2) b ((c + d) / 2) d

/-! ### Digits -/
/-- How many binary digits a number has; how many zeros stand at its end. -/
def bl (x : Int) : Int := (Lib.bitLen x.toNat : Nat)
def tz (x : Int) : Int := (Lib.ctz 64 x.toNat : Nat)
/-- From the first digit that is 1 to the last one. -/
def BT (n : Int) : Int := if n = 0 then 0 else bl n.natAbs - tz n.natAbs

/-! ### Floats by their words -/
def nrm (b : Int) : Bool := decide (0 ≤ b) && decide (b < 18446744073709551616) && decide (1 ≤ Fl.fld b.toNat) && decide (Fl.fld b.toNat ≤ 2046)
/-- What Ldexp takes. -/
def LDok (b e : Int) : Bool := (b == 0) || (nrm b && decide (1 ≤ (Fl.fld b.toNat : Int) + e) && decide ((Fl.fld b.toNat : Int) + e ≤ 2046) && decide (-3000 ≤ e) && decide (e ≤ 3000))
def LD (b e : Int) : Int := if b = 0 then 0 else b + e * 4503599627370496
/-- The word of a whole number; over 2 to the power of s. -/
def FWi (n : Int) : Int := (Fl.FW n : Nat)
def DWi (n s : Int) : Int := (Fl.DWn n s.toNat : Nat)

/-- A finite word: its digits, their power of 2; an odd number and a power of 2 whose product it stands for. -/
def finw (b : Int) : Bool := decide (0 ≤ b) && decide (b < 18446744073709551616) && decide (Fl.fld b.toNat ≤ 2046)
def dig (b : Int) : Int := if Fl.fld b.toNat = 0 then b % 4503599627370496 else 4503599627370496 + b % 4503599627370496
def dpw (b : Int) : Int := if Fl.fld b.toNat = 0 then -1074 else (Fl.fld b.toNat : Int) - 1075
def SPo (b : Int) : Int := if dig b = 0 then 0 else if b / 9223372036854775808 = 1 then -(dig b / 2 ^ (tz (dig b)).toNat) else dig b / 2 ^ (tz (dig b)).toNat
def SPp (b : Int) : Int := if dig b = 0 then 0 else dpw b + tz (dig b)
/-- A number raised, if it can be a part. -/
def RPok (n up : Int) : Bool := (n == 0) || (decide (up ≤ 30) && decide (-(1073741824 / 2 ^ up.toNat) ≤ n) && decide (n ≤ 1073741824 / 2 ^ up.toNat))

/-- The exact number that two words are. -/
def DOs (a b : Int) : Int := max (max 0 (-SPp a)) (-SPp b)
def DOr (a b : Int) : Int := SPo a * 2 ^ (SPp a + DOs a b).toNat
def DOi (a b : Int) : Int := SPo b * 2 ^ (SPp b + DOs a b).toNat
def DOk (a b : Int) : Bool := decide (DOs a b ≤ 60) && RPok (SPo a) (SPp a + DOs a b) && RPok (SPo b) (SPp b + DOs a b) && MK (DOr a b) (DOi a b) (DOs a b)

/-- The signs. -/
def FB : Nat → Nat → List Int → Bool
  | 1, _, [a, b] => SV a b
  | 2, _, [a, b, c, d] => BV a b c d
  | 3, _, [r, i, s] => DV r i s
  | 4, _, [r, i, s] => MK r i s
  | 5, _, [r, i, s, x, y, t] => ADD r i s x y t
  | 6, _, [a, b, c, d] => SQB a b c d
  | 7, _, [a, b, c, d, x, y, z, u] => ADB a b c d x y z u
  | 8, _, [a, b, c, d, r, i, s] => BH a b c d r i s
  | 9, _, [a, b, c, d, x, y, z, u] => BW a b c d x y z u
  | 10, _, [a, b, c, d] => SW a b c d
  | 11, _, [r, i, s] => SQ r i s
  | 54, _, [a, b, c, n] => OV a b c n
  | 56, _, [a, b, c, d, n] => BO a b c d n
  | 100, _, xs => xs.all le30
  | 101, _, xs => xs.all le60
  | 102, _, [n, d] => le60 n && decide (1 ≤ d) && le60 d
  | 105, _, [x] => decide (0 ≤ x) && decide (x ≤ 18446744073709551615)
  | 106, _, [x] => decide (-9223372036854775807 ≤ x) && decide (x ≤ 9223372036854775807)
  | 110, _, [b, e] => LDok b e
  | 111, _, [n, s] => decide (-2147483648 ≤ n) && decide (n ≤ 2147483648) && decide (0 ≤ s) && decide (s ≤ 60)
  | 112, _, [a, b] => (a == b) && ((a == 0) || nrm a)
  | 114, _, [a, b] => ((a == 0) || nrm a) && ((b == 0) || nrm b)
  | 118, _, [b] => finw b
  | 122, _, [n, up] => RPok n up
  | 123, _, [a, b] => DOk a b
  | 124, _, [a, b] => finw a && finw b
  | 117, _, [n, up] => le60 n && decide (0 ≤ up) && decide (up ≤ 3000)
  | 113, _, [n] => decide (-2147483648 ≤ n) && decide (n ≤ 2147483648)
  | 104, _, [r, i, s] => le60 r && le60 i && decide (0 ≤ s) && decide (s ≤ 120)
  | 103, _, [a, b, k] => le60 a && le60 b && decide (0 ≤ k) && decide (k ≤ 62)
  | _, _, _ => false
def FI0 : Nat → Nat → List Int → Int
  | 4, 0, [r, i, s] => if MK r i s then lR r i s else 0
  | 4, 1, [r, i, s] => if MK r i s then lI r i s else 0
  | 4, 2, [r, i, s] => if MK r i s then lS r i s else 0
  | 5, 0, [r, i, s, x, y, t] => if ADD r i s x y t then lR (AP r s x t) (AP i s y t) (max s t) else 0
  | 5, 1, [r, i, s, x, y, t] => if ADD r i s x y t then lI (AP r s x t) (AP i s y t) (max s t) else 0
  | 5, 2, [r, i, s, x, y, t] => if ADD r i s x y t then lS (AP r s x t) (AP i s y t) (max s t) else 0
  | 6, 0, [a, b, c, d] => if SQB a b c d then sq0 a b c d else 0
  | 6, 1, [a, b, c, d] => if SQB a b c d then sq1 a b c d else 0
  | 6, 2, [a, b, c, d] => if SQB a b c d then sq2 a b c d else 0
  | 6, 3, [a, b, c, d] => if SQB a b c d then sq3 a b c d else 0
  | 7, 0, [a, b, c, d, x, y, z, u] => if ADB a b c d x y z u then a + x else 0
  | 7, 1, [a, b, c, d, x, y, z, u] => if ADB a b c d x y z u then b + y else 0
  | 7, 2, [a, b, c, d, x, y, z, u] => if ADB a b c d x y z u then c + z else 0
  | 7, 3, [a, b, c, d, x, y, z, u] => if ADB a b c d x y z u then d + u else 0
  | 11, 0, [r, i, s] => if SQ r i s then lR (SR r i) (SI r i) (2 * s) else 0
  | 11, 1, [r, i, s] => if SQ r i s then lI (SR r i) (SI r i) (2 * s) else 0
  | 11, 2, [r, i, s] => if SQ r i s then lS (SR r i) (SI r i) (2 * s) else 0
  | 12, 0, [r, i, s] => if DV r i s then NM r i s else 0
  | 30, 0, [a, b, c, d] => mulLo a b c d
  | 30, 1, [a, b, c, d] => mulHi a b c d
  | 31, 0, [l, h] => sqLo l h
  | 31, 1, [l, h] => sqHi l h
  | 32, 0, [n, k] => n / 2 ^ k.toNat
  | 32, 1, [n, k] => -(-n / 2 ^ k.toNat)
  | 33, 0, [n, d] => fl n d
  | 33, 1, [n, d] => ce n d
  | 34, 0, [a, b, c, d] => if BV a b c d then NLo a b c d else 0
  | 34, 1, [a, b, c, d] => if BV a b c d then NHi a b c d else 0
  | 35, 0, [a, b, c, d] => if BV a b c d then CBD a b c d else 0
  | 36, 0, [a, b, c, d] => if BV a b c d then DBD a b c d else 0
  | 37, 0, [n, s] => FLq n s
  | 37, 1, [n, s] => CEq n s
  | 50, 99, [m, f, k, c0, c1, c2, c3, z0, z1, z2, z3] => (esc m c0 c1 c2 c3 402 f k z0 z1 z2 z3).1
  | 50, 0, [m, f, k, c0, c1, c2, c3, z0, z1, z2, z3] => (esc m c0 c1 c2 c3 402 f k z0 z1 z2 z3).2.1
  | 50, 1, [m, f, k, c0, c1, c2, c3, z0, z1, z2, z3] => (esc m c0 c1 c2 c3 402 f k z0 z1 z2 z3).2.2
  | 50, 10, [m, f, k, c0, c1, c2, c3, z0, z1, z2, z3] => (esc m c0 c1 c2 c3 402 f k z0 z1 z2 z3).2.1
  | 51, 0, [a, b, c, d, m] => if BV a b c d then escP a b c d m else 0
  | 51, 1, [a, b, c, d, m] => if BV a b c d then escW a b c d m else 0
  | 52, 0, [a, b, c, d, m] => if BV a b c d then CST a b c d m else 0
  | 53, 0, [r, i, s, m] => if DV r i s then (if BV (FLq r s) (CEq r s) (FLq i s) (CEq i s) then CST (FLq r s) (CEq r s) (FLq i s) (CEq i s) m else 0) else 0
  | 86, j, [a, b, c, d, m, n] => cdv j n.toNat a b c d m
  | 87, 0, [c, z] => gAdd c z
  | 54, 0, [a, b, c, n] => if OV a b c n then (olen a b c n.toNat 0 : Nat) else 0
  | 55, 0, [a, b, c, k] => (oz a b c k.toNat).1
  | 55, 1, [a, b, c, k] => (oz a b c k.toNat).2.1
  | 55, 2, [a, b, c, k] => (oz a b c k.toNat).2.2
  | 56, 0, [a, b, c, d, n] => if BO a b c d n then (blen a b c d n.toNat 0 : Nat) else 0
  | 57, 0, [a, b, c, d, k] => (bz a b c d k.toNat).1
  | 57, 1, [a, b, c, d, k] => (bz a b c d k.toNat).2.1
  | 57, 2, [a, b, c, d, k] => (bz a b c d k.toNat).2.2.1
  | 57, 3, [a, b, c, d, k] => (bz a b c d k.toNat).2.2.2
  | 58, j, [k, m, i] => k + m * i + j
  | 59, 0, [a, b, c, d, k] => in0 a b c d k
  | 59, 1, [a, b, c, d, k] => in1 a b c d k
  | 59, 2, [a, b, c, d, k] => in2 a b c d k
  | 88, j, [a, b, c, d, k] => qv j a b c d k
  | 89, 0, [a, b, c, d, m, k] => if BV (qv 0 a b c d k) (qv 1 a b c d k) (qv 2 a b c d k) (qv 3 a b c d k) then CST (qv 0 a b c d k) (qv 1 a b c d k) (qv 2 a b c d k) (qv 3 a b c d k) m else 0
  | 80, j, [a, b, c, d, m, e] => cdp m j e.toNat a b c d
  | 110, 0, [b, e] => LD b e
  | 111, 0, [n, s] => DWi n s
  | 121, 0, [b] => SPo b
  | 121, 1, [b] => SPp b
  | 122, 0, [n, up] => if RPok n up then n * 2 ^ up.toNat else 0
  | 123, 0, [a, b] => if DOk a b then lR (DOr a b) (DOi a b) (DOs a b) else 0
  | 123, 1, [a, b] => if DOk a b then lI (DOr a b) (DOi a b) (DOs a b) else 0
  | 123, 2, [a, b] => if DOk a b then lS (DOr a b) (DOi a b) (DOs a b) else 0
  | 115, 0, [_, s, x, i] => LD x (i - s)
  | 112, 0, [r, i, s] => if DV r i s then DWi r s else 0
  | 112, 1, [r, i, s] => if DV r i s then DWi i s else 0
  | 90, 0, [x] => bl x
  | 91, 0, [x] => tz x
  | 92, 0, [n] => BT n
  | 93, 0, [r, i, s] => if DV r i s then max (BT r) (BT i) else 0
  | 94, 0, [n] => n / 2 ^ (tz n).toNat
  | 95, 0, [n, o] => o + bl n
  | 65, 0, L :: _ => 1 + 3 * max L 0
  | 65, 1, L :: _ => max L 0
  | 66, 0, L :: _ => 1 + 4 * max L 0
  | 66, 1, L :: _ => max L 0
  | 38, 0, [r, i, s] => lR r i s
  | 38, 1, [r, i, s] => lI r i s
  | 38, 2, [r, i, s] => lS r i s
  | _, _, _ => 0
/-- Places behind what is drawn; what is drawn. -/
def FDa (pv : Int → Int → Int) (s : Nat) (p : Int) : Int := if s = 1001 then bxP pv p else if s = 1002 then p + 4 else if s = 1000 then p + 1 else p
def FDv (pv : Int → Int → Int) : Nat → Nat → List Int → Int
  | 1000, 0, [p, n] => pv p n
  | 1001, 0, [p] => bxA pv p
  | 1001, 1, [p] => bxB pv p
  | 1001, 2, [p] => bxC pv p
  | 1001, 3, [p] => bxD pv p
  | 1002, 0, [p] => dyR pv p
  | 1002, 1, [p] => dyI pv p
  | 1002, 2, [p] => dyS pv p
  | _, _, _ => 0
def FI (pv : Int → Int → Int) (s j : Nat) (xs : List Int) : Int := if s < 1000 then FI0 s j xs else if 100 ≤ j then (match xs with
  | p :: _ => FDa pv s p
  | [] => 0) else FDv pv s j xs

theorem le30_iff (x : Int) : le30 x = true ↔ -1073741824 ≤ x ∧ x ≤ 1073741824 := by unfold le30; simp
theorem le60_iff (x : Int) : le60 x = true ↔ -1152921504606846976 ≤ x ∧ x ≤ 1152921504606846976 := by unfold le60; simp
theorem mul30 {x y : Int} (hx : -1073741824 ≤ x ∧ x ≤ 1073741824) (hy : -1073741824 ≤ y ∧ y ≤ 1073741824) : -1152921504606846976 ≤ x * y ∧ x * y ≤ 1152921504606846976 := by
  have h : (x * y).natAbs ≤ 1073741824 * 1073741824 := by
    rw [Int.natAbs_mul]; exact Nat.mul_le_mul (by omega) (by omega)
  omega
theorem wrap_in {x : Int} (h : -9223372036854775808 ≤ x) (h' : x ≤ 9223372036854775807) : IntKind.i64.wrap x = x := by
  simp [IntKind.wrap, IntKind.bits, IntKind.signed]; omega

end Go.Proofs.Ytjbpaejjpamcpaa
