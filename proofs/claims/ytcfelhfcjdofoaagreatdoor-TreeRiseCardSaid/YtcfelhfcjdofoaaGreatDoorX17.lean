/- Part 18 of a proof of a statement about the given program: an abstract machine over the model, proved sound, and contracts of the functions that the statement reaches; the last part proves the statement, for every input, with no condition. -/
import Derived.Test.YtcfelhfcjdofoaaGreatDoorX15
import Derived.Test.YtcfelhfcjdofoaaGreatDoorX16
import Derived.Test.YtcfelhfcjdofoaaGreatDoorX13
import Derived.Shelf.SlSortCmp.NoneTotal
set_option linter.unusedSimpArgs false
set_option linter.unusedVariables false
/- Numbers: what an operation makes. -/
set_option autoImplicit false
set_option maxRecDepth 20000
set_option maxHeartbeats 4000000
set_option linter.unusedSimpArgs false
set_option linter.unusedVariables false
namespace Go.Ab
open Go.Proofs
def bA (k : IntKind) (x y : Int) : Int := k.wrap ((BitVec.ofInt k.bits x &&& BitVec.ofInt k.bits y).toNat : Nat)
def bO (k : IntKind) (x y : Int) : Int := k.wrap ((BitVec.ofInt k.bits x ||| BitVec.ofInt k.bits y).toNat : Nat)
def bX (k : IntKind) (x y : Int) : Int := k.wrap ((BitVec.ofInt k.bits x ^^^ BitVec.ofInt k.bits y).toNat : Nat)
def bN (k : IntKind) (x y : Int) : Int := k.wrap ((BitVec.ofInt k.bits x &&& ~~~BitVec.ofInt k.bits y).toNat : Nat)
abbrev wI (x : Int) : Int := IntKind.i64.wrap x
abbrev wU (x : Int) : Int := IntKind.u64.wrap x
theorem wU_bd (x : Int) : 0 ≤ wU x ∧ wU x < 18446744073709551616 := by rw [wU, IntKind.wrap_u64]; omega
def yesI (b : Bool) : Int := if b then 1 else 0
theorem yes_ac (b : Bool) : AC Tryz.prog T tysN 290 [.bool b] [] (.int (yesI b)) [] := by
 refine AC_intro hT Tryz.func290 rfl rfl (Nat.le_of_ble_eq_true rfl) ?_
 refine sq (rg [] rfl ?_)
 refine sq (sq (rg [] rfl ?_))
 refine cd rfl (fun h1 => ?_) (fun h1 => ?_)
 ·refine sq (rg [] rfl ?_)
  refine WP.ret ?_
  change Fin ..
  refine finI hT (by rfl) ?_
  simp_all [yesI]
 ·refine sk (sq (rg [] rfl ?_))
  refine WP.ret ?_
  change Fin ..
  refine finI hT (by rfl) ?_
  simp_all [yesI]
def arityF (op : Int) : Int := if 1 ≤ op ∧ op ≤ 15 then 1 else if 16 ≤ op ∧ op ≤ 36 then 2 else 0
theorem arity_ac (op : Int) : AC Tryz.prog T tysN 268 [.int op] [] (.int (arityF op)) [] := by
 refine AC_intro hT Tryz.func268 rfl rfl (Nat.le_of_ble_eq_true rfl) ?_
 refine sq (rg [] rfl ?_)
 refine sq (bk (sq (rg [] rfl ?_)))
 refine cd rfl (fun h1 => ?_) (fun h1 => ?_)
 ·simp only [band] at h1
  simp at h1
  refine sq (rg [] rfl ?_)
  refine WP.ret ?_
  change Fin ..
  exact finI hT (by rfl) (by rw [arityF, if_pos h1])
 ·simp only [band] at h1
  simp at h1
  refine sq (rg [] rfl ?_)
  refine cd rfl (fun h3 => ?_) (fun h3 => ?_)
  ·simp only [band] at h3
   simp at h3
   refine sq (rg [] rfl ?_)
   refine WP.ret ?_
   change Fin ..
   exact finI hT (by rfl) (by rw [arityF, if_neg (by omega), if_pos (by omega)])
  ·simp only [band] at h3
   simp at h3
   refine sk (sq (rg [] rfl ?_))
   refine WP.ret ?_
   change Fin ..
   exact finI hT (by rfl) (by rw [arityF, if_neg (by omega), if_neg (by omega)])
def ones1 (x : Int) : Int := wU (bA .u64 (x.fdiv 2) 6148914691236517205 + bA .u64 x 6148914691236517205)
def ones2 (x : Int) : Int := wU (bA .u64 (x.fdiv 4) 3689348814741910323 + bA .u64 x 3689348814741910323)
def ones3 (x : Int) : Int := bA .u64 (wU (x.fdiv 16 + x)) 1085102592571150095
def onesK (k x : Int) : Int := wU (x + x.fdiv k)
def onesF (x : Int) : Int := bA .i64 (wI (onesK 4294967296 (onesK 65536 (onesK 256 (ones3 (ones2 (ones1 x))))))) 127
theorem ones_ac (x : Int) : AC Tryz.prog T tysN 286 [.v (.int .u64 x)] [] (.int (onesF x)) [] := by
 refine AC_intro hT Tryz.func286 rfl rfl (Nat.le_of_ble_eq_true rfl) ?_
 refine sq (rg [] rfl ?_)
 refine sq (rg [] rfl ?_)
 refine sq ?_
 refine WP.ent (st' := mkSt [(0, .v (.int .u64 (ones1 x)))] []) ?_ ?_
 ·refine em [] trivial ⟨⟨rfl, _, rfl, cvt⟩, trivial⟩ trivial
 refine rg [] rfl ?_
 refine sq ?_
 refine WP.ent (st' := mkSt [(0, .v (.int .u64 (ones2 (ones1 x))))] []) ?_ ?_
 ·refine em [] trivial ⟨⟨rfl, _, rfl, cvt⟩, trivial⟩ trivial
 refine rg [] rfl ?_
 refine sq ?_
 refine WP.ent (st' := mkSt [(0, .v (.int .u64 (ones3 (ones2 (ones1 x)))))] []) ?_ ?_
 ·refine em [] trivial ⟨⟨rfl, _, rfl, cvt⟩, trivial⟩ trivial
 refine rg [] rfl ?_
 refine sq ?_
 refine WP.ent (st' := mkSt [(0, .v (.int .u64 (onesK 256 (ones3 (ones2 (ones1 x))))))] []) ?_ ?_
 ·refine em [] trivial ⟨⟨rfl, _, rfl, cvt⟩, trivial⟩ trivial
 refine rg [] rfl ?_
 refine sq ?_
 refine WP.ent (st' := mkSt [(0, .v (.int .u64 (onesK 65536 (onesK 256 (ones3 (ones2 (ones1 x)))))))] []) ?_ ?_
 ·refine em [] trivial ⟨⟨rfl, _, rfl, cvt⟩, trivial⟩ trivial
 refine rg [] rfl ?_
 refine sq ?_
 refine WP.ent (st' := mkSt [(0, .v (.int .u64 (onesK 4294967296 (onesK 65536 (onesK 256 (ones3 (ones2 (ones1 x))))))))] []) ?_ ?_
 ·refine em [] trivial ⟨⟨rfl, _, rfl, cvt⟩, trivial⟩ trivial
 refine rg [] rfl ?_
 refine WP.ret ?_
 change Fin ..
 exact finI hT (by rfl) rfl
theorem lead_ac (x : Int) (h0 : 0 ≤ x) (h1 : x < 18446744073709551616) : AC Tryz.prog T tysN 287 [.v (.int .u64 x)] [] (.int (64 - (Go.Lib.bitLen x.toNat : Int))) [] :=
  AC.of_calls (xs := [.int .u64 x]) ⟨_, Tryz.func287, rfl, rfl⟩ (fun I ρ => repV_v rfl) fun w _ => Any.bits_LeadingZeros64 Tryz.layLz x w h0 (by omega)
theorem trail_ac (x : Int) (h0 : 0 ≤ x) (h1 : x < 18446744073709551616) : AC Tryz.prog T tysN 288 [.v (.int .u64 x)] [] (.int (Go.Lib.ctz 64 x.toNat : Nat)) [] := by
  obtain ⟨n, rfl⟩ := Int.eq_ofNat_of_zero_le h0
  exact AC.of_calls (xs := [.int .u64 n]) ⟨_, Tryz.func288, rfl, rfl⟩ (fun I ρ => repV_v rfl) fun w hw => Any7.bits_TrailingZeros64 Tryz.layTz n (by omega) w fun _ j hj => hw 0 j _ (by
    show deB[j]? = _
    have e : deB = Go.Lib.deBruijn64tab := rfl
    rw [e, List.getElem?_eq_getElem hj, List.getD_eq_getElem?_getD, List.getElem?_eq_getElem hj]; rfl)
theorem mul_ac (x y : Nat) (hx : x < 18446744073709551616) (hy : y < 18446744073709551616) : AC Tryz.prog T tysN 299 [.v (.int .u64 x), .v (.int .u64 y)] [] (.tup [.v (.int .u64 ((x * y / 18446744073709551616 : Nat) : Int)), .v (.int .u64 ((x * y % 18446744073709551616 : Nat) : Int))]) [] :=
  AC.of_calls (xs := [.int .u64 x, .int .u64 y]) ⟨_, Tryz.func299, rfl, rfl⟩ (fun I ρ => .tup _ rfl fun i c h => match i, h with | 0, h => by cases h; exact rep1_v rfl | 1, h => by cases h; exact rep1_v rfl) fun w _ => Any.bits_Mul64 Tryz.layMul x y hx hy w
def flipTo (a : Int) : Nat → Int
  | 0 => 0
  | k + 1 => bO .u64 (flipTo a k) (wU (bA .u64 ((wU a).fdiv (2 ^ min k 64)) 1 * 2 ^ (min (63 - k) 64)))
def flipF (a : Int) : Int := wI (flipTo a 64)
theorem flip_ac (a : Int) : AC Tryz.prog T tysN 289 [.int a] [] (.int (flipF a)) [] := by
 refine AC_intro hT Tryz.func289 rfl rfl (Nat.le_of_ble_eq_true rfl) ?_
 refine sq (rg [] rfl ?_)
 refine sq (rg [] rfl ?_)
 refine sq (sq (rg [] rfl ?_))
 refine bk ?_
 refine WP.loop (α := Nat) (fun k => mkSt [(0, .int a), (3, .v (.int .u64 (flipTo a k))), (5, .int k)] []) (fun k => k ≤ 64) (fun k => 64 - k) ?_ ?_
 ·refine ⟨0, ?_, ?_⟩
  ·exact Nat.zero_le _
  ·refine em [] trivial ⟨⟨rfl, _, rfl, cvt⟩, ⟨rfl, _, rfl, cvt⟩, ⟨rfl, _, rfl, cvt⟩, trivial⟩ trivial
 ·rintro k hk
  refine sq (rg [] rfl ?_)
  refine sq ?_
  refine cd rfl (fun h3 => ?_) (fun h3 => ?_)
  ·have hkl : k < 64 := by simp at h3; omega
   have e63 : IntKind.i64.wrap (63 - (k : Int)) = ((63 - k : Nat) : Int) := by rw [wrap_id (by omega) (by omega)]; omega
   refine sk (sq (bk (sq (rg [] rfl ?_))))
   refine rgs [] rfl ?_ ?_
   ·simp only [holdsC, under]
    repeat' refine And.intro ?_ ?_
    all_goals (first | trivial | (rw [e63]; omega) | omega)
   refine rg [] rfl ?_
   refine ⟨k + 1, ?_, ?_, ?_⟩
   ·exact hkl
   ·refine em [] trivial ⟨⟨rfl, _, rfl, cvt⟩, ⟨rfl, _, rfl, conv_eq (by rw [flipTo, bO, bA]; simp only [e63, Int.toNat_natCast]; rfl)⟩, ⟨rfl, _, rfl, cvt⟩, trivial⟩ trivial
   ·(try simp only []); first | omega | grind
  ·have hkl : k = 64 := by simp at h3; omega
   subst hkl
   refine xt (sq (rg [] rfl ?_))
   refine WP.ret ?_
   change Fin ..
   exact finI hT (by rfl) rfl
def rotF (x r : Int) : Int := bO .u64 (wU (x * 2 ^ (min (bA .u64 (wU r) 63).toNat 64))) (x.fdiv (2 ^ (min (wU (64 - bA .u64 (wU r) 63)).toNat 64)))
theorem bA_bd (x y : Int) : 0 ≤ bA .u64 x y ∧ bA .u64 x y < 18446744073709551616 := wU_bd _
theorem rot_ac (x r : Int) : AC Tryz.prog T tysN 291 [.v (.int .u64 x), .int r] [] (.v (.int .u64 (rotF x r))) [] := by
 refine AC_intro hT Tryz.func291 rfl rfl (Nat.le_of_ble_eq_true rfl) ?_
 refine sq (rg [] rfl ?_)
 refine sq (rg [] rfl ?_)
 refine sq (rgs [] rfl ?_ ?_)
 ·have h1 := bA_bd (wU r) 63
  have h2 := wU_bd (64 - bA .u64 (wU r) 63)
  simp only [holdsC, under]
  exact ⟨h1.1, h2.1⟩
 refine WP.ret ?_
 change Fin ..
 exact fin_mk hT [] (ts := [(4, .v (.int .u64 (rotF x r)))]) (l := [.v (.int .u64 (rotF x r))]) trivial ⟨⟨rfl, _, rfl, conv_eq rfl⟩, trivial⟩ trivial rfl rfl rfl
def high1 (a b : Int) : Int := (((wU a).toNat * (wU b).toNat / 18446744073709551616 : Nat) : Int)
def high2 (a b : Int) : Int := if a < 0 then wU (high1 a b - wU b) else high1 a b
def high3 (a b : Int) : Int := if b < 0 then wU (high2 a b - wU a) else high2 a b
def lowF (a b : Int) : Int := (((wU a).toNat * (wU b).toNat % 18446744073709551616 : Nat) : Int)
theorem wide_ac (a b : Int) : AC Tryz.prog T tysN 292 [.int a, .int b] [] (.tup [.int (wI (high3 a b)), .v (.int .u64 (lowF a b))]) [] := by
 refine AC_intro hT Tryz.func292 rfl rfl (Nat.le_of_ble_eq_true rfl) ?_
 refine sq (rg [] rfl ?_)
 refine sq (rgs [CG.pure (.tup [.v (.int .u64 (high1 a b)), .v (.int .u64 (lowF a b))])] rfl ?_ ?_)
 ·have h1 := wU_bd a; have h2 := wU_bd b
  have hq := mul_ac (wU a).toNat (wU b).toNat (by omega) (by omega)
  rw [Int.toNat_of_nonneg h1.1, Int.toNat_of_nonneg h2.1] at hq
  simp only [holdsC, under, CG.pure]
  repeat' with_reducible refine And.intro ?_ ?_
  all_goals (try with_reducible intros)
  all_goals (first | exact trivial | assumption | omega | exact hq | (simp; done) | grind)
 refine sq (sq (rg [] rfl ?_))
 refine cd rfl (fun h2 => ?_) (fun h2 => ?_)
 ·refine rg [] rfl ?_
  refine sq (sq (rg [] rfl ?_))
  refine cd rfl (fun h4 => ?_) (fun h4 => ?_)
  ·refine rg [] rfl ?_
   refine sq (rg [] rfl ?_)
   refine WP.ret ?_
   change Fin ..
   exact fin_mk hT [] (ts := [(4, .int (wI (high3 a b))), (5, .v (.int .u64 (lowF a b)))]) (l := [.int (wI (high3 a b)), .v (.int .u64 (lowF a b))]) trivial ⟨⟨rfl, _, rfl, conv_eq (by simp at h2 h4; simp only [high3, high2]; (repeat' split) <;> first | rfl | omega)⟩, ⟨rfl, _, rfl, conv_eq rfl⟩, trivial⟩ trivial rfl rfl rfl
  ·refine sk (sq (rg [] rfl ?_))
   refine WP.ret ?_
   change Fin ..
   exact fin_mk hT [] (ts := [(4, .int (wI (high3 a b))), (5, .v (.int .u64 (lowF a b)))]) (l := [.int (wI (high3 a b)), .v (.int .u64 (lowF a b))]) trivial ⟨⟨rfl, _, rfl, conv_eq (by simp at h2 h4; simp only [high3, high2]; (repeat' split) <;> first | rfl | omega)⟩, ⟨rfl, _, rfl, conv_eq rfl⟩, trivial⟩ trivial rfl rfl rfl
 ·refine sk (sq (sq (rg [] rfl ?_)))
  refine cd rfl (fun h4 => ?_) (fun h4 => ?_)
  ·refine rg [] rfl ?_
   refine sq (rg [] rfl ?_)
   refine WP.ret ?_
   change Fin ..
   exact fin_mk hT [] (ts := [(4, .int (wI (high3 a b))), (5, .v (.int .u64 (lowF a b)))]) (l := [.int (wI (high3 a b)), .v (.int .u64 (lowF a b))]) trivial ⟨⟨rfl, _, rfl, conv_eq (by simp at h2 h4; simp only [high3, high2]; (repeat' split) <;> first | rfl | omega)⟩, ⟨rfl, _, rfl, conv_eq rfl⟩, trivial⟩ trivial rfl rfl rfl
  ·refine sk (sq (rg [] rfl ?_))
   refine WP.ret ?_
   change Fin ..
   exact fin_mk hT [] (ts := [(4, .int (wI (high3 a b))), (5, .v (.int .u64 (lowF a b)))]) (l := [.int (wI (high3 a b)), .v (.int .u64 (lowF a b))]) trivial ⟨⟨rfl, _, rfl, conv_eq (by simp at h2 h4; simp only [high3, high2]; (repeat' split) <;> first | rfl | omega)⟩, ⟨rfl, _, rfl, conv_eq rfl⟩, trivial⟩ trivial rfl rfl rfl
def oneF (op a : Int) : Int := if op = 3 then (if 0 ≤ a then a else wI (0 - a)) else if op = 1 then wI (0 - a) else if op = 2 then bX .i64 (-1) a else if op = 4 then onesF (wU a) else
  if op = 5 then 64 - (Go.Lib.bitLen (wU a).toNat : Int) else if op = 6 then (Go.Lib.ctz 64 (wU a).toNat : Nat) else if op = 7 then flipF a else if op = 8 then yesI (a != 0) else if op = 9 then yesI (a == 0) else
  if op = 10 then wI (IntKind.i8.wrap a) else if op = 11 then wI (IntKind.i16.wrap a) else if op = 12 then wI (IntKind.i32.wrap a) else if op = 13 then wI (IntKind.u8.wrap a) else if op = 14 then wI (IntKind.u16.wrap a) else wI (IntKind.u32.wrap a)
theorem one_ac (op a : Int) : AC Tryz.prog T tysN 269 [.int op, .int a] [] (.int (oneF op a)) [] := by
 refine AC_intro hT Tryz.func269 rfl rfl (Nat.le_of_ble_eq_true rfl) ?_
 refine sq (rg [] rfl ?_)
 refine sq (sq (rg [] rfl ?_))
 refine bk (sq (bk (sq (bk (sq (bk (sq (bk (sq (bk (sq (bk (sq (bk (sq (bk (sq (bk (sq (bk (sq (bk (sq (bk (sq (bk (sq (bk (sq (sq (sq (rg [] rfl ?_))))))))))))))))))))))))))))))))
 refine cd rfl (fun h2 => ?_) (fun h2 => ?_)
 ·refine xt (sq (rg [] rfl ?_))
  refine cd rfl (fun h16 => ?_) (fun h16 => ?_)
  ·refine sq (rg [] rfl ?_)
   refine WP.ret ?_
   change Fin ..
   refine finI hT (by rfl) ?_
   simp only [beq_iff_eq, beq_eq_false_iff_ne, decide_eq_true_eq, decide_eq_false_iff_not] at *
   unfold oneF
   simp_all
   all_goals (first | rfl | (intro; omega))
  ·refine sk (sq (sq (rg [] rfl ?_)))
   refine WP.ret ?_
   change Fin ..
   refine finI hT (by rfl) ?_
   simp only [beq_iff_eq, beq_eq_false_iff_ne, decide_eq_true_eq, decide_eq_false_iff_not] at *
   unfold oneF
   simp_all
   all_goals (first | rfl | (intro; omega))
 ·refine sk (sq (sq (rg [] rfl ?_)))
  refine cd rfl (fun h3 => ?_) (fun h3 => ?_)
  ·refine xt (sq (sq (rg [] rfl ?_)))
   refine WP.ret ?_
   change Fin ..
   refine finI hT (by rfl) ?_
   simp only [beq_iff_eq, beq_eq_false_iff_ne, decide_eq_true_eq, decide_eq_false_iff_not] at *
   unfold oneF
   simp_all
   all_goals (first | rfl | (intro; omega))
  ·refine sk (sq (sq (rg [] rfl ?_)))
   refine cd rfl (fun h4 => ?_) (fun h4 => ?_)
   ·refine xt (sq (sq (rg [] rfl ?_)))
    refine WP.ret ?_
    change Fin ..
    refine finI hT (by rfl) ?_
    simp only [beq_iff_eq, beq_eq_false_iff_ne, decide_eq_true_eq, decide_eq_false_iff_not] at *
    unfold oneF
    simp_all
    all_goals (first | rfl | (intro; omega))
   ·refine sk (sq (sq (rg [] rfl ?_)))
    refine cd rfl (fun h5 => ?_) (fun h5 => ?_)
    ·refine xt (sq (sq (rgs [CG.pure (.int (onesF (wU a)))] rfl ?_ ?_)))
     ·have hq := ones_ac (wU a)
      simp only [holdsC, under, CG.pure]
      repeat' with_reducible refine And.intro ?_ ?_
      all_goals (try with_reducible intros)
      all_goals (first | exact trivial | assumption | omega | exact hq | (simp; done) | grind)
     refine WP.ret ?_
     change Fin ..
     refine finI hT (by rfl) ?_
     simp only [beq_iff_eq, beq_eq_false_iff_ne, decide_eq_true_eq, decide_eq_false_iff_not] at *
     unfold oneF
     simp_all
     all_goals (first | rfl | (intro; omega))
    ·refine sk (sq (sq (rg [] rfl ?_)))
     refine cd rfl (fun h6 => ?_) (fun h6 => ?_)
     ·refine xt (sq (sq (rgs [CG.pure (.int (64 - (Go.Lib.bitLen (wU a).toNat : Int)))] rfl ?_ ?_)))
      ·have hq := lead_ac (wU a) (wU_bd a).1 (wU_bd a).2
       simp only [holdsC, under, CG.pure]
       repeat' with_reducible refine And.intro ?_ ?_
       all_goals (try with_reducible intros)
       all_goals (first | exact trivial | assumption | omega | exact hq | (simp; done) | grind)
      refine WP.ret ?_
      change Fin ..
      refine finI hT (by rfl) ?_
      simp only [beq_iff_eq, beq_eq_false_iff_ne, decide_eq_true_eq, decide_eq_false_iff_not] at *
      unfold oneF
      simp_all
      all_goals (first | rfl | (intro; omega))
     ·refine sk (sq (sq (rg [] rfl ?_)))
      refine cd rfl (fun h7 => ?_) (fun h7 => ?_)
      ·refine xt (sq (sq (rgs [CG.pure (.int (Go.Lib.ctz 64 (wU a).toNat : Nat))] rfl ?_ ?_)))
       ·have hq := trail_ac (wU a) (wU_bd a).1 (wU_bd a).2
        simp only [holdsC, under, CG.pure]
        repeat' with_reducible refine And.intro ?_ ?_
        all_goals (try with_reducible intros)
        all_goals (first | exact trivial | assumption | omega | exact hq | (simp; done) | grind)
       refine WP.ret ?_
       change Fin ..
       refine finI hT (by rfl) ?_
       simp only [beq_iff_eq, beq_eq_false_iff_ne, decide_eq_true_eq, decide_eq_false_iff_not] at *
       unfold oneF
       simp_all
       all_goals (first | rfl | (intro; omega))
      ·refine sk (sq (sq (rg [] rfl ?_)))
       refine cd rfl (fun h8 => ?_) (fun h8 => ?_)
       ·refine xt (sq (sq (rgs [CG.pure (.int (flipF a))] rfl ?_ ?_)))
        ·have hq := flip_ac a
         simp only [holdsC, under, CG.pure]
         repeat' with_reducible refine And.intro ?_ ?_
         all_goals (try with_reducible intros)
         all_goals (first | exact trivial | assumption | omega | exact hq | (simp; done) | grind)
        refine WP.ret ?_
        change Fin ..
        refine finI hT (by rfl) ?_
        simp only [beq_iff_eq, beq_eq_false_iff_ne, decide_eq_true_eq, decide_eq_false_iff_not] at *
        unfold oneF
        simp_all
        all_goals (first | rfl | (intro; omega))
       ·refine sk (sq (sq (rg [] rfl ?_)))
        refine cd rfl (fun h9 => ?_) (fun h9 => ?_)
        ·refine xt (sq (sq (rgs [CG.pure (.int (yesI (a != 0)))] rfl ?_ ?_)))
         ·have hq := yes_ac (a != 0)
          simp only [holdsC, under, CG.pure]
          repeat' with_reducible refine And.intro ?_ ?_
          all_goals (try with_reducible intros)
          all_goals (first | exact trivial | assumption | omega | exact hq | (simp; done) | grind)
         refine WP.ret ?_
         change Fin ..
         refine finI hT (by rfl) ?_
         simp only [beq_iff_eq, beq_eq_false_iff_ne, decide_eq_true_eq, decide_eq_false_iff_not] at *
         unfold oneF
         simp_all
         all_goals (first | rfl | (intro; omega))
        ·refine sk (sq (sq (rg [] rfl ?_)))
         refine cd rfl (fun h10 => ?_) (fun h10 => ?_)
         ·refine xt (sq (sq (rgs [CG.pure (.int (yesI (a == 0)))] rfl ?_ ?_)))
          ·have hq := yes_ac (a == 0)
           simp only [holdsC, under, CG.pure]
           repeat' with_reducible refine And.intro ?_ ?_
           all_goals (try with_reducible intros)
           all_goals (first | exact trivial | assumption | omega | exact hq | (simp; done) | grind)
          refine WP.ret ?_
          change Fin ..
          refine finI hT (by rfl) ?_
          simp only [beq_iff_eq, beq_eq_false_iff_ne, decide_eq_true_eq, decide_eq_false_iff_not] at *
          unfold oneF
          simp_all
          all_goals (first | rfl | (intro; omega))
         ·refine sk (sq (sq (rg [] rfl ?_)))
          refine cd rfl (fun h11 => ?_) (fun h11 => ?_)
          ·refine xt (sq (sq (rg [] rfl ?_)))
           refine WP.ret ?_
           change Fin ..
           refine finI hT (by rfl) ?_
           simp only [beq_iff_eq, beq_eq_false_iff_ne, decide_eq_true_eq, decide_eq_false_iff_not] at *
           unfold oneF
           simp_all
           all_goals (first | rfl | (intro; omega))
          ·refine sk (sq (sq (rg [] rfl ?_)))
           refine cd rfl (fun h12 => ?_) (fun h12 => ?_)
           ·refine xt (sq (sq (rg [] rfl ?_)))
            refine WP.ret ?_
            change Fin ..
            refine finI hT (by rfl) ?_
            simp only [beq_iff_eq, beq_eq_false_iff_ne, decide_eq_true_eq, decide_eq_false_iff_not] at *
            unfold oneF
            simp_all
            all_goals (first | rfl | (intro; omega))
           ·refine sk (sq (sq (rg [] rfl ?_)))
            refine cd rfl (fun h13 => ?_) (fun h13 => ?_)
            ·refine xt (sq (sq (rg [] rfl ?_)))
             refine WP.ret ?_
             change Fin ..
             refine finI hT (by rfl) ?_
             simp only [beq_iff_eq, beq_eq_false_iff_ne, decide_eq_true_eq, decide_eq_false_iff_not] at *
             unfold oneF
             simp_all
             all_goals (first | rfl | (intro; omega))
            ·refine sk (sq (sq (rg [] rfl ?_)))
             refine cd rfl (fun h14 => ?_) (fun h14 => ?_)
             ·refine xt (sq (sq (rg [] rfl ?_)))
              refine WP.ret ?_
              change Fin ..
              refine finI hT (by rfl) ?_
              simp only [beq_iff_eq, beq_eq_false_iff_ne, decide_eq_true_eq, decide_eq_false_iff_not] at *
              unfold oneF
              simp_all
              all_goals (first | rfl | (intro; omega))
             ·refine sk (sq (rg [] rfl ?_))
              refine cd rfl (fun h15 => ?_) (fun h15 => ?_)
              ·refine xt (sq (sq (rg [] rfl ?_)))
               refine WP.ret ?_
               change Fin ..
               refine finI hT (by rfl) ?_
               simp only [beq_iff_eq, beq_eq_false_iff_ne, decide_eq_true_eq, decide_eq_false_iff_not] at *
               unfold oneF
               simp_all
               all_goals (first | rfl | (intro; omega))
              ·refine sk (xt (sq (rg [] rfl ?_)))
               refine WP.ret ?_
               change Fin ..
               refine finI hT (by rfl) ?_
               simp only [beq_iff_eq, beq_eq_false_iff_ne, decide_eq_true_eq, decide_eq_false_iff_not] at *
               unfold oneF
               simp_all
               all_goals (first | rfl | (intro; omega))
def divF (op a b : Int) : Int × Int := if b = 0 then (0, 20) else if op = 19 ∧ b = -1 then (wI (0 - a), 0) else if op = 19 then (wI (a.tdiv b), 0) else if b = -1 then (0, 0) else (a.tmod b, 0)
theorem fin2I {nt : Nat} {t : Nat → Option (D × AV)} {m : Id → Option Ob} {j k : Nat} {a b c d : Int} (h1 : t j = some (.always, .int a)) (h2 : t k = some (.always, .int b)) (hjk : Nat.beq k j = false) (e : (a, b) = (c, d)) : Fin T tysN nt 0 [.tmp j, .tmp k] (.tup [.int c, .int d]) [] ⟨t, m⟩ := by
  cases e
  refine fin_mk hT [] (ts := [(j, .int a), (k, .int b)]) (l := [.int a, .int b]) trivial ⟨⟨rfl, _, h1, conv_eq rfl⟩, ⟨rfl, _, h2, conv_eq rfl⟩, trivial⟩ trivial rfl ?_ rfl
  have hj : Nat.beq j j = true := by simp
  have hk : Nat.beq k k = true := by simp
  simp only [resL, mkSt, lookN, hjk, hj, hk]
  rfl
theorem divided_ac (op a b : Int) : AC Tryz.prog T tysN 270 [.int op, .int a, .int b] [] (.tup [.int (divF op a b).1, .int (divF op a b).2]) [] := by
 refine AC_intro hT Tryz.func270 rfl rfl (Nat.le_of_ble_eq_true rfl) ?_
 refine sq (rg [] rfl ?_)
 refine sq (bk (sq (rg [] rfl ?_)))
 refine cd rfl (fun h1 => ?_) (fun h1 => ?_)
 ·refine sq (rg [] rfl ?_)
  refine WP.ret ?_
  change Fin ..
  refine fin2I (by rfl) (by rfl) rfl ?_
  simp only [band, beq_iff_eq, beq_eq_false_iff_ne] at *
  unfold divF
  simp_all
 ·refine sq (rg [] rfl ?_)
  refine cd rfl (fun h3 => ?_) (fun h3 => ?_)
  ·refine sq (rg [] rfl ?_)
   refine WP.ret ?_
   change Fin ..
   refine fin2I (by rfl) (by rfl) rfl ?_
   simp only [band, beq_iff_eq, beq_eq_false_iff_ne] at *
   unfold divF
   simp_all
  ·refine sq (rg [] rfl ?_)
   refine cd rfl (fun h5 => ?_) (fun h5 => ?_)
   ·refine sq (rgs [] rfl ?_ ?_)
    ·simp [holdsC, under] at *
     assumption
    refine WP.ret ?_
    change Fin ..
    refine fin2I (by rfl) (by rfl) rfl ?_
    simp only [band, beq_iff_eq, beq_eq_false_iff_ne] at *
    unfold divF
    simp_all
   ·refine sq (rg [] rfl ?_)
    refine cd rfl (fun h7 => ?_) (fun h7 => ?_)
    ·refine sq (rg [] rfl ?_)
     refine WP.ret ?_
     change Fin ..
     refine fin2I (by rfl) (by rfl) rfl ?_
     simp only [band, beq_iff_eq, beq_eq_false_iff_ne] at *
     unfold divF
     simp_all
    ·refine sk (sq (rgs [] rfl ?_ ?_))
     ·simp [holdsC, under] at *
      assumption
     refine WP.ret ?_
     change Fin ..
     refine fin2I (by rfl) (by rfl) rfl ?_
     simp only [band, beq_iff_eq, beq_eq_false_iff_ne] at *
     unfold divF
     simp_all
def shF (op a b : Int) : Int × Int := if b < 0 then (0, 21) else if op = 25 then (wI (a * 2 ^ (min (wU b).toNat 64)), 0) else if op = 26 then (a.fdiv (2 ^ (min (wU b).toNat 64)), 0) else (wI ((wU a).fdiv (2 ^ (min (wU b).toNat 64))), 0)
theorem shifted_ac (op a b : Int) : AC Tryz.prog T tysN 271 [.int op, .int a, .int b] [] (.tup [.int (shF op a b).1, .int (shF op a b).2]) [] := by
 refine AC_intro hT Tryz.func271 rfl rfl (Nat.le_of_ble_eq_true rfl) ?_
 refine sq (rg [] rfl ?_)
 refine sq (bk (sq (rg [] rfl ?_)))
 refine cd rfl (fun h1 => ?_) (fun h1 => ?_)
 ·refine sq (rg [] rfl ?_)
  refine WP.ret ?_
  change Fin ..
  refine fin2I (by rfl) (by rfl) rfl ?_
  simp only [band, beq_iff_eq, beq_eq_false_iff_ne, decide_eq_true_eq, decide_eq_false_iff_not] at *
  unfold shF
  (repeat' split) <;> first | rfl | omega
 ·refine sq (rg [] rfl ?_)
  refine cd rfl (fun h3 => ?_) (fun h3 => ?_)
  ·refine sq (rgs [] rfl ?_ ?_)
   ·exact (wU_bd b).1
   refine WP.ret ?_
   change Fin ..
   refine fin2I (by rfl) (by rfl) rfl ?_
   simp only [band, beq_iff_eq, beq_eq_false_iff_ne, decide_eq_true_eq, decide_eq_false_iff_not] at *
   unfold shF
   (repeat' split) <;> first | rfl | omega
  ·refine sq (rg [] rfl ?_)
   refine cd rfl (fun h5 => ?_) (fun h5 => ?_)
   ·refine sq (rgs [] rfl ?_ ?_)
    ·exact (wU_bd b).1
    refine WP.ret ?_
    change Fin ..
    refine fin2I (by rfl) (by rfl) rfl ?_
    simp only [band, beq_iff_eq, beq_eq_false_iff_ne, decide_eq_true_eq, decide_eq_false_iff_not] at *
    unfold shF
    (repeat' split) <;> first | rfl | omega
   ·refine sk (sq (rgs [] rfl ?_ ?_))
    ·exact (wU_bd b).1
    refine WP.ret ?_
    change Fin ..
    refine fin2I (by rfl) (by rfl) rfl ?_
    simp only [band, beq_iff_eq, beq_eq_false_iff_ne, decide_eq_true_eq, decide_eq_false_iff_not] at *
    unfold shF
    (repeat' split) <;> first | rfl | omega
end Go.Ab


/- Numbers: Apply. -/
set_option autoImplicit false
set_option maxRecDepth 20000
set_option maxHeartbeats 4000000
set_option linter.unusedSimpArgs false
set_option linter.unusedVariables false
namespace Go.Ab
open Go.Proofs
def twoF (op a b : Int) : Int := if op = 16 then wI (a + b) else if op = 17 then wI (a - b) else if op = 18 then wI (a * b) else if op = 21 then bA .i64 a b else if op = 22 then bO .i64 a b else if op = 23 then bX .i64 a b else
  if op = 24 then bN .i64 a b else if op = 28 then wI (rotF (wU a) (bA .i64 b 63)) else if op = 29 then yesI (a == b) else if op = 30 then yesI (a != b) else if op = 31 then yesI (decide (a < b)) else
  if op = 32 then yesI (decide (a ≤ b)) else if op = 33 then yesI (decide (wU a < wU b)) else if op = 34 then (if b < a then b else a) else if op = 35 then (if b > a then b else a) else wI (high3 a b)
theorem two_ac (op a b : Int) : AC Tryz.prog T tysN 272 [.int op, .int a, .int b] [] (.int (twoF op a b)) [] := by
 refine AC_intro hT Tryz.func272 rfl rfl (Nat.le_of_ble_eq_true rfl) ?_
 refine sq (rg [] rfl ?_)
 refine sq (sq (rg [] rfl ?_))
 refine bk (sq (rg [] rfl ?_))
 refine cd rfl (fun h2 => ?_) (fun h2 => ?_)
 ·refine sq (rg [] rfl ?_)
  refine WP.ret ?_
  change Fin ..
  refine finI hT (by rfl) ?_
  simp only [beq_iff_eq, beq_eq_false_iff_ne] at *
  unfold twoF
  simp_all only [Int.reduceEq, if_true, if_false, ne_eq, not_false_eq_true, not_true_eq_false]
  all_goals rfl
 ·refine sq (rg [] rfl ?_)
  refine cd rfl (fun h4 => ?_) (fun h4 => ?_)
  ·refine sq (rg [] rfl ?_)
   refine WP.ret ?_
   change Fin ..
   refine finI hT (by rfl) ?_
   simp only [beq_iff_eq, beq_eq_false_iff_ne] at *
   unfold twoF
   simp_all only [Int.reduceEq, if_true, if_false, ne_eq, not_false_eq_true, not_true_eq_false]
   all_goals rfl
  ·refine sq (rg [] rfl ?_)
   refine cd rfl (fun h6 => ?_) (fun h6 => ?_)
   ·refine sq (rg [] rfl ?_)
    refine WP.ret ?_
    change Fin ..
    refine finI hT (by rfl) ?_
    simp only [beq_iff_eq, beq_eq_false_iff_ne] at *
    unfold twoF
    simp_all only [Int.reduceEq, if_true, if_false, ne_eq, not_false_eq_true, not_true_eq_false]
    all_goals rfl
   ·refine sq (rg [] rfl ?_)
    refine cd rfl (fun h8 => ?_) (fun h8 => ?_)
    ·refine sq (rg [] rfl ?_)
     refine WP.ret ?_
     change Fin ..
     refine finI hT (by rfl) ?_
     simp only [beq_iff_eq, beq_eq_false_iff_ne] at *
     unfold twoF
     simp_all only [Int.reduceEq, if_true, if_false, ne_eq, not_false_eq_true, not_true_eq_false]
     all_goals rfl
    ·refine sq (rg [] rfl ?_)
     refine cd rfl (fun h10 => ?_) (fun h10 => ?_)
     ·refine sq (rg [] rfl ?_)
      refine WP.ret ?_
      change Fin ..
      refine finI hT (by rfl) ?_
      simp only [beq_iff_eq, beq_eq_false_iff_ne] at *
      unfold twoF
      simp_all only [Int.reduceEq, if_true, if_false, ne_eq, not_false_eq_true, not_true_eq_false]
      all_goals rfl
     ·refine sq (rg [] rfl ?_)
      refine cd rfl (fun h12 => ?_) (fun h12 => ?_)
      ·refine sq (rg [] rfl ?_)
       refine WP.ret ?_
       change Fin ..
       refine finI hT (by rfl) ?_
       simp only [beq_iff_eq, beq_eq_false_iff_ne] at *
       unfold twoF
       simp_all only [Int.reduceEq, if_true, if_false, ne_eq, not_false_eq_true, not_true_eq_false]
       all_goals rfl
      ·refine sq (rg [] rfl ?_)
       refine cd rfl (fun h14 => ?_) (fun h14 => ?_)
       ·refine sq (rg [] rfl ?_)
        refine WP.ret ?_
        change Fin ..
        refine finI hT (by rfl) ?_
        simp only [beq_iff_eq, beq_eq_false_iff_ne] at *
        unfold twoF
        simp_all only [Int.reduceEq, if_true, if_false, ne_eq, not_false_eq_true, not_true_eq_false]
        all_goals rfl
       ·refine sq (rg [] rfl ?_)
        refine cd rfl (fun h16 => ?_) (fun h16 => ?_)
        ·refine sq (rgs [CG.pure (.v (.int .u64 (rotF (wU a) (bA .i64 b 63))))] rfl ?_ ?_)
         ·have hq := rot_ac (wU a) (bA .i64 b 63)
          simp only [holdsC, under, CG.pure]
          repeat' with_reducible refine And.intro ?_ ?_
          all_goals (try with_reducible intros)
          all_goals (first | exact trivial | assumption | omega | exact hq | (simp; done) | grind)
         refine WP.ret ?_
         change Fin ..
         refine finI hT (by rfl) ?_
         simp only [beq_iff_eq, beq_eq_false_iff_ne] at *
         unfold twoF
         simp_all only [Int.reduceEq, if_true, if_false, ne_eq, not_false_eq_true, not_true_eq_false]
         all_goals rfl
        ·refine sq (rg [] rfl ?_)
         refine cd rfl (fun h18 => ?_) (fun h18 => ?_)
         ·refine sq (rgs [CG.pure (.int (yesI (a == b)))] rfl ?_ ?_)
          ·have hq := yes_ac (a == b)
           simp only [holdsC, under, CG.pure]
           repeat' with_reducible refine And.intro ?_ ?_
           all_goals (try with_reducible intros)
           all_goals (first | exact trivial | assumption | omega | exact hq | (simp; done) | grind)
          refine WP.ret ?_
          change Fin ..
          refine finI hT (by rfl) ?_
          simp only [beq_iff_eq, beq_eq_false_iff_ne] at *
          unfold twoF
          simp_all only [Int.reduceEq, if_true, if_false, ne_eq, not_false_eq_true, not_true_eq_false]
          all_goals rfl
         ·refine sq (rg [] rfl ?_)
          refine cd rfl (fun h20 => ?_) (fun h20 => ?_)
          ·refine sq (rgs [CG.pure (.int (yesI (a != b)))] rfl ?_ ?_)
           ·have hq := yes_ac (a != b)
            simp only [holdsC, under, CG.pure]
            repeat' with_reducible refine And.intro ?_ ?_
            all_goals (try with_reducible intros)
            all_goals (first | exact trivial | assumption | omega | exact hq | (simp; done) | grind)
           refine WP.ret ?_
           change Fin ..
           refine finI hT (by rfl) ?_
           simp only [beq_iff_eq, beq_eq_false_iff_ne] at *
           unfold twoF
           simp_all only [Int.reduceEq, if_true, if_false, ne_eq, not_false_eq_true, not_true_eq_false]
           all_goals rfl
          ·refine sq (rg [] rfl ?_)
           refine cd rfl (fun h22 => ?_) (fun h22 => ?_)
           ·refine sq (rgs [CG.pure (.int (yesI (decide (a < b))))] rfl ?_ ?_)
            ·have hq := yes_ac (decide (a < b))
             simp only [holdsC, under, CG.pure]
             repeat' with_reducible refine And.intro ?_ ?_
             all_goals (try with_reducible intros)
             all_goals (first | exact trivial | assumption | omega | exact hq | (simp; done) | grind)
            refine WP.ret ?_
            change Fin ..
            refine finI hT (by rfl) ?_
            simp only [beq_iff_eq, beq_eq_false_iff_ne] at *
            unfold twoF
            simp_all only [Int.reduceEq, if_true, if_false, ne_eq, not_false_eq_true, not_true_eq_false]
            all_goals rfl
           ·refine sq (rg [] rfl ?_)
            refine cd rfl (fun h24 => ?_) (fun h24 => ?_)
            ·refine sq (rgs [CG.pure (.int (yesI (decide (a ≤ b))))] rfl ?_ ?_)
             ·have hq := yes_ac (decide (a ≤ b))
              simp only [holdsC, under, CG.pure]
              repeat' with_reducible refine And.intro ?_ ?_
              all_goals (try with_reducible intros)
              all_goals (first | exact trivial | assumption | omega | exact hq | (simp; done) | grind)
             refine WP.ret ?_
             change Fin ..
             refine finI hT (by rfl) ?_
             simp only [beq_iff_eq, beq_eq_false_iff_ne] at *
             unfold twoF
             simp_all only [Int.reduceEq, if_true, if_false, ne_eq, not_false_eq_true, not_true_eq_false]
             all_goals rfl
            ·refine sq (rg [] rfl ?_)
             refine cd rfl (fun h26 => ?_) (fun h26 => ?_)
             ·refine sq (rgs [CG.pure (.int (yesI (decide (wU a < wU b))))] rfl ?_ ?_)
              ·have hq := yes_ac (decide (wU a < wU b))
               simp only [holdsC, under, CG.pure]
               repeat' with_reducible refine And.intro ?_ ?_
               all_goals (try with_reducible intros)
               all_goals (first | exact trivial | assumption | omega | exact hq | (simp; done) | grind)
              refine WP.ret ?_
              change Fin ..
              refine finI hT (by rfl) ?_
              simp only [beq_iff_eq, beq_eq_false_iff_ne] at *
              unfold twoF
              simp_all only [Int.reduceEq, if_true, if_false, ne_eq, not_false_eq_true, not_true_eq_false]
              all_goals rfl
             ·refine sq (rg [] rfl ?_)
              refine cd rfl (fun h28 => ?_) (fun h28 => ?_)
              ·refine sq (rg [] rfl ?_)
               refine WP.ret ?_
               change Fin ..
               refine finI hT (by rfl) ?_
               simp only [beq_iff_eq, beq_eq_false_iff_ne] at *
               unfold twoF
               simp_all only [Int.reduceEq, if_true, if_false, ne_eq, not_false_eq_true, not_true_eq_false]
               all_goals rfl
              ·refine sq (rg [] rfl ?_)
               refine cd rfl (fun h30 => ?_) (fun h30 => ?_)
               ·refine sq (rg [] rfl ?_)
                refine WP.ret ?_
                change Fin ..
                refine finI hT (by rfl) ?_
                simp only [beq_iff_eq, beq_eq_false_iff_ne] at *
                unfold twoF
                simp_all only [Int.reduceEq, if_true, if_false, ne_eq, not_false_eq_true, not_true_eq_false]
                all_goals rfl
               ·refine sk (sq (rgs [CG.pure (.tup [.int (wI (high3 a b)), .v (.int .u64 (lowF a b))])] rfl ?_ ?_))
                ·have hq := wide_ac a b
                 simp only [holdsC, under, CG.pure]
                 repeat' with_reducible refine And.intro ?_ ?_
                 all_goals (try with_reducible intros)
                 all_goals (first | exact trivial | assumption | omega | exact hq | (simp; done) | grind)
                refine sq (rg [] rfl ?_)
                refine WP.ret ?_
                change Fin ..
                refine finI hT (by rfl) ?_
                simp only [beq_iff_eq, beq_eq_false_iff_ne] at *
                unfold twoF
                simp_all only [Int.reduceEq, if_true, if_false, ne_eq, not_false_eq_true, not_true_eq_false]
                all_goals rfl
def appF (op a b : Int) : Int × Int := if arityF op = 0 then (0, 22) else if arityF op = 1 then (oneF op a, 0) else if op = 19 ∨ op = 20 then divF op a b else if 25 ≤ op ∧ op ≤ 27 then shF op a b else (twoF op a b, 0)
theorem apply_ac (op a b : Int) : AC Tryz.prog T tysN 244 [.int op, .int a, .int b] [] (.tup [.int (appF op a b).1, .int (appF op a b).2]) [] := by
 refine AC_intro hT Tryz.func244 rfl rfl (Nat.le_of_ble_eq_true rfl) ?_
 refine sq (rg [] rfl ?_)
 refine sq (bk (sq (rgs [CG.pure (.int (arityF op))] rfl ?_ ?_)))
 ·have hq := arity_ac op
  simp only [holdsC, under, CG.pure]
  repeat' with_reducible refine And.intro ?_ ?_
  all_goals (try with_reducible intros)
  all_goals (first | exact trivial | assumption | omega | exact hq | (simp; done) | grind)
 refine cd rfl (fun h1 => ?_) (fun h1 => ?_)
 ·refine sq (rg [] rfl ?_)
  refine WP.ret ?_
  change Fin ..
  refine fin2I (by rfl) (by rfl) rfl ?_
  (try simp only [bor, band] at *)
  simp at *
  unfold appF
  (repeat' split) <;> first | rfl | omega
 ·refine sq (rgs [CG.pure (.int (arityF op))] rfl ?_ ?_)
  ·have hq := arity_ac op
   simp only [holdsC, under, CG.pure]
   repeat' with_reducible refine And.intro ?_ ?_
   all_goals (try with_reducible intros)
   all_goals (first | exact trivial | assumption | omega | exact hq | (simp; done) | grind)
  refine cd rfl (fun h3 => ?_) (fun h3 => ?_)
  ·refine sq (rgs [CG.pure (.int (oneF op a))] rfl ?_ ?_)
   ·have hq := one_ac op a
    simp only [holdsC, under, CG.pure]
    repeat' with_reducible refine And.intro ?_ ?_
    all_goals (try with_reducible intros)
    all_goals (first | exact trivial | assumption | omega | exact hq | (simp; done) | grind)
   refine WP.ret ?_
   change Fin ..
   refine fin2I (by rfl) (by rfl) rfl ?_
   (try simp only [bor, band] at *)
   simp at *
   unfold appF
   (repeat' split) <;> first | rfl | omega
  ·refine sq (rg [] rfl ?_)
   refine cd rfl (fun h5 => ?_) (fun h5 => ?_)
   ·refine sq (rgs [CG.pure (.tup [.int (divF op a b).1, .int (divF op a b).2])] rfl ?_ ?_)
    ·have hq := divided_ac op a b
     simp only [holdsC, under, CG.pure]
     repeat' with_reducible refine And.intro ?_ ?_
     all_goals (try with_reducible intros)
     all_goals (first | exact trivial | assumption | omega | exact hq | (simp; done) | grind)
    refine WP.ret ?_
    change Fin ..
    refine fin2I (by rfl) (by rfl) rfl ?_
    (try simp only [bor, band] at *)
    simp at *
    unfold appF
    (repeat' split) <;> first | rfl | omega
   ·refine sq (rg [] rfl ?_)
    refine cd rfl (fun h7 => ?_) (fun h7 => ?_)
    ·refine sq (rgs [CG.pure (.tup [.int (shF op a b).1, .int (shF op a b).2])] rfl ?_ ?_)
     ·have hq := shifted_ac op a b
      simp only [holdsC, under, CG.pure]
      repeat' with_reducible refine And.intro ?_ ?_
      all_goals (try with_reducible intros)
      all_goals (first | exact trivial | assumption | omega | exact hq | (simp; done) | grind)
     refine WP.ret ?_
     change Fin ..
     refine fin2I (by rfl) (by rfl) rfl ?_
     (try simp only [bor, band] at *)
     simp at *
     unfold appF
     (repeat' split) <;> first | rfl | omega
    ·refine sk (sq (rgs [CG.pure (.int (twoF op a b))] rfl ?_ ?_))
     ·have hq := two_ac op a b
      simp only [holdsC, under, CG.pure]
      repeat' with_reducible refine And.intro ?_ ?_
      all_goals (try with_reducible intros)
      all_goals (first | exact trivial | assumption | omega | exact hq | (simp; done) | grind)
     refine WP.ret ?_
     change Fin ..
     refine fin2I (by rfl) (by rfl) rfl ?_
     (try simp only [bor, band] at *)
     simp at *
     unfold appF
     (repeat' split) <;> first | rfl | omega
end Go.Ab


/- Local instructions are run; how a program begins. -/
set_option autoImplicit false
set_option maxRecDepth 20000
set_option maxHeartbeats 4000000
set_option linter.unusedSimpArgs false
set_option linter.unusedVariables false
namespace Go.Ab
open Go.Proofs
def z8 : List Int := [0, 0, 0, 0, 0, 0, 0, 0]
def endG (g : PGo) (st why : Int) : PGo := { g with status := st, why := why, regs := z8 }
theorem zero8A (t : Nat) : (AV.agg t 8 fun _ => AV.int 0) = arrI t 8 .i64 z8 := agg_ext fun i => by match i with | 0 | 1 | 2 | 3 | 4 | 5 | 6 | 7 => rfl | i + 8 => rfl
theorem endG_put (g : PGo) (st why : Int) : (((encGo g).put [0] (.int st)).put [3] (.int why)).put [4] (.agg 52 8 fun _ => AV.int 0) = encGo (endG g st why) := by
  rw [putGo_status, putGo_why, zero8A, putGo_regs]; rfl
theorem done_ac (g : PGo) (st why : Int) : AC Tryz.prog T tysN 243 [encGo g, .int st, .int why] [] (encGo (endG g st why)) [] := by
 refine AC_intro hT Tryz.func243 rfl rfl (Nat.le_of_ble_eq_true rfl) ?_
 refine sq (rg [] rfl ?_)
 refine sq (rg [] rfl ?_)
 refine sq (rg [] rfl ?_)
 refine WP.ret ?_
 change Fin ..
 exact fin_cell hT rfl rfl rfl rfl rfl (conv_eq (endG_put g st why)) rfl rfl rfl
def setR (g : PGo) (r v : Int) : PGo := { g with regs := g.regs.set r.toNat v }
def numF (g : PGo) (x : PIns) : Int × Int := appF x.op (regI g x.b) (if x.op > 15 then regI g x.c else 0)
def locF (g : PGo) (x : PIns) : PGo :=
  if x.op = 40 then setR { g with pc := g.pc + 1 } x.a x.n else if x.op = 41 then setR { g with pc := g.pc + 1 } x.a (regI g x.b) else if x.op = 42 then { g with pc := x.a } else
  if x.op = 43 then (if regI g x.a ≠ 0 then { g with pc := x.b } else { g with pc := g.pc + 1 }) else if x.op = 44 then (if regI g x.a = 0 then endG g 4 1 else { g with pc := g.pc + 1 }) else
  if x.op = 45 then endG g 3 0 else if (numF g x).2 = 20 then endG g 4 2 else if (numF g x).2 = 21 then endG g 4 3 else setR { g with pc := g.pc + 1 } x.a (numF g x).1
theorem inc_pc {g : PGo} (h : 0 ≤ g.pc ∧ g.pc < 64) : (encGo g).put [2] (.int (IntKind.i64.wrap (g.pc + 1))) = encGo { g with pc := g.pc + 1 } := by
  rw [wrap_id (by omega) (by omega)]; exact putGo_pc _ _
theorem dec_pc {g : PGo} (h : 0 ≤ g.pc ∧ g.pc < 64) : (encGo { g with pc := g.pc + 1 }).put [2] (.int (IntKind.i64.wrap (g.pc + 1 - 1))) = encGo g := by
  rw [wrap_id (by omega) (by omega), putGo_pc]; congr 1; cases g; simp
theorem local_ac (p : PProg) (f : PFun) (g : PGo) (x : PIns) (hf : FunP p f) (hx : InsP p f x) (hl : locB x.op = true) (hg : okGo g) (hpc : 0 ≤ g.pc ∧ g.pc < 64) : AC Tryz.prog T tysN 205 [encGo g, encIns x] [] (encGo (locF g x)) [] := by
 refine AC_intro hT Tryz.func205 rfl rfl (Nat.le_of_ble_eq_true rfl) ?_
 have hr := hf.regs
 have hg8 : g.regs.length = 8 := hg
 have hl' : (1 ≤ x.op ∧ x.op ≤ 36) ∨ (40 ≤ x.op ∧ x.op ≤ 45) := by simp [locB] at hl; omega
 have hn := hx.num; have hn2 := hx.num2; have hc := hx.const; have hm := hx.move; have hj := hx.jump; have hcd := hx.cond
 simp only [regP, bndP] at hn hn2 hc hm hj hcd
 refine sq (rg [] rfl ?_)
 refine sq (rg [] rfl ?_)
 refine sq (sq ?_)
 refine WP.ent (st' := mkSt [(3, .rp 120 (encIns x)), (2, .ptr (.s 2 0) 1 0 []), (4, .ptr (.s 4 0) 1 0 [])] [(.s 2 0, .cells ⟨59, 1, fun _ => encGo { g with pc := g.pc + 1 }, 0⟩), (.s 4 0, .cells ⟨59, 1, fun _ => (T 59).zero, 0⟩)]) (em [(.s 3 0, 1)] ⟨sF, trivial⟩ ⟨⟨rfl, _, rfl, rpv⟩, ⟨rfl, _, rfl, cvt⟩, ⟨rfl, _, rfl, cvt⟩, trivial⟩ ⟨obs rfl (hg := q0 (conv_eq (inc_pc hpc))), obs rfl, trivial⟩) ?_
 refine rg [] rfl ?_
 refine bk (sq (rg [] rfl ?_))
 refine cd rfl (fun h15 => ?_) (fun h15 => ?_)
 ·have e : x.op = 40 := by simpa using h15
  have := hc (.inl e)
  refine rgs [] rfl ?_ ?_
  ·simp [-List.getD_eq_getElem?_getD, holdsC, under]; omega
  refine sq (rg [] rfl ?_)
  refine WP.ret ?_
  change Fin ..
  refine fin_cell hT rfl rfl rfl rfl rfl (conv_eq ?_) rfl rfl rfl
  rw [locF, if_pos e]
  exact putGo_reg _ (by show x.a.toNat < g.regs.length; omega)
 ·have e0 : x.op ≠ 40 := by simpa using h15
  refine sq (rg [] rfl ?_)
  refine cd rfl (fun h17 => ?_) (fun h17 => ?_)
  ·have e : x.op = 41 := by simpa using h17
   have := hm e
   refine drs [] rfl ?_ ?_
   ·simp [-List.getD_eq_getElem?_getD, holdsC, under]; omega
   refine sq (rg [] rfl ?_)
   refine WP.ret ?_
   change Fin ..
   refine fin_cell hT rfl rfl rfl rfl rfl (conv_eq ?_) rfl rfl rfl
   rw [locF, if_neg e0, if_pos e]
   exact putGo_reg _ (by show x.a.toNat < g.regs.length; omega)
  ·have e1 : x.op ≠ 41 := by simpa using h17
   refine sq (rg [] rfl ?_)
   refine cd rfl (fun h19 => ?_) (fun h19 => ?_)
   ·have e : x.op = 42 := by simpa using h19
    refine rg [] rfl ?_
    refine sq (rg [] rfl ?_)
    refine WP.ret ?_
    change Fin ..
    refine fin_cell hT rfl rfl rfl rfl rfl (conv_eq ?_) rfl rfl rfl
    rw [locF, if_neg e0, if_neg e1, if_pos e]
    exact putGo_pc _ _
   ·have e2 : x.op ≠ 42 := by simpa using h19
    refine sq (rg [] rfl ?_)
    refine cd rfl (fun h21 => ?_) (fun h21 => ?_)
    ·have e : x.op = 43 := by simpa using h21
     have := hc (.inr (.inr (.inr (.inr e))))
     refine sq (rgs [] rfl ?_ ?_)
     ·simp [-List.getD_eq_getElem?_getD, holdsC, under]; omega
     refine cd rfl (fun h22 => ?_) (fun h22 => ?_)
     ·have hz : regI g x.a ≠ 0 := by simp [-List.getD_eq_getElem?_getD] at h22; exact h22
      refine rg [] rfl ?_
      refine sq (rg [] rfl ?_)
      refine WP.ret ?_
      change Fin ..
      refine fin_cell hT rfl rfl rfl rfl rfl (conv_eq ?_) rfl rfl rfl
      rw [locF, if_neg e0, if_neg e1, if_neg e2, if_pos e, if_pos hz]
      exact putGo_pc _ _
     ·have hz : ¬ regI g x.a ≠ 0 := by simp [-List.getD_eq_getElem?_getD] at h22; simpa using h22
      refine sk (sq (rg [] rfl ?_))
      refine WP.ret ?_
      change Fin ..
      refine fin_cell hT rfl rfl rfl rfl rfl (conv_eq ?_) rfl rfl rfl
      rw [locF, if_neg e0, if_neg e1, if_neg e2, if_pos e, if_neg hz]
      rfl
    ·have e3 : x.op ≠ 43 := by simpa using h21
     refine sq (rg [] rfl ?_)
     refine cd rfl (fun h24 => ?_) (fun h24 => ?_)
     ·have e : x.op = 44 := by simpa using h24
      have := hc (.inr (.inl e))
      refine sq (rgs [] rfl ?_ ?_)
      ·simp [-List.getD_eq_getElem?_getD, holdsC, under]; omega
      refine cd rfl (fun h25 => ?_) (fun h25 => ?_)
      ·have hz : regI g x.a = 0 := by simp [-List.getD_eq_getElem?_getD] at h25; exact h25
       refine sq (rg [] rfl ?_)
       refine sq ?_
       refine WP.ent (st' := mkSt [(2, .ptr (.s 2 0) 1 0 []), (4, .ptr (.s 4 0) 1 0 [])] [(.s 2 0, .cells ⟨59, 1, fun _ => encGo g, 0⟩), (.s 4 0, .cells ⟨59, 1, fun _ => (T 59).zero, 0⟩)]) (em [] trivial ⟨⟨rfl, _, rfl, cvt⟩, ⟨rfl, _, rfl, cvt⟩, trivial⟩ ⟨obs rfl (hg := q0 (conv_eq (dec_pc hpc))), obs rfl, trivial⟩) ?_
       refine rgs [CG.pure (encGo (endG g 4 1))] rfl ?_ ?_
       ·have hq := done_ac g 4 1
        simp only [holdsC, under, CG.pure]
        repeat' with_reducible refine And.intro ?_ ?_
        all_goals (try with_reducible intros)
        all_goals (first | exact trivial | assumption | omega | exact hq | (simp; done) | grind)
       refine WP.ret ?_
       change Fin ..
       refine fin_cell hT rfl rfl rfl rfl rfl (conv_eq ?_) rfl rfl rfl
       rw [locF, if_neg e0, if_neg e1, if_neg e2, if_neg e3, if_pos e, if_pos hz]
       rfl
      ·have hz : ¬ regI g x.a = 0 := by simp [-List.getD_eq_getElem?_getD] at h25; exact h25
       refine sk (sq (rg [] rfl ?_))
       refine WP.ret ?_
       change Fin ..
       refine fin_cell hT rfl rfl rfl rfl rfl (conv_eq ?_) rfl rfl rfl
       rw [locF, if_neg e0, if_neg e1, if_neg e2, if_neg e3, if_pos e, if_neg hz]
       rfl
     ·have e4 : x.op ≠ 44 := by simpa using h24
      refine sq (rg [] rfl ?_)
      refine cd rfl (fun h28 => ?_) (fun h28 => ?_)
      ·have e : x.op = 45 := by simpa using h28
       refine sq (rg [] rfl ?_)
       refine sq ?_
       refine WP.ent (st' := mkSt [(2, .ptr (.s 2 0) 1 0 []), (4, .ptr (.s 4 0) 1 0 [])] [(.s 2 0, .cells ⟨59, 1, fun _ => encGo g, 0⟩), (.s 4 0, .cells ⟨59, 1, fun _ => (T 59).zero, 0⟩)]) (em [] trivial ⟨⟨rfl, _, rfl, cvt⟩, ⟨rfl, _, rfl, cvt⟩, trivial⟩ ⟨obs rfl (hg := q0 (conv_eq (dec_pc hpc))), obs rfl, trivial⟩) ?_
       refine rgs [CG.pure (encGo (endG g 3 0))] rfl ?_ ?_
       ·have hq := done_ac g 3 0
        simp only [holdsC, under, CG.pure]
        repeat' with_reducible refine And.intro ?_ ?_
        all_goals (try with_reducible intros)
        all_goals (first | exact trivial | assumption | omega | exact hq | (simp; done) | grind)
       refine WP.ret ?_
       change Fin ..
       refine fin_cell hT rfl rfl rfl rfl rfl (conv_eq ?_) rfl rfl rfl
       rw [locF, if_neg e0, if_neg e1, if_neg e2, if_neg e3, if_neg e4, if_pos e]
       rfl
      ·have e5 : x.op ≠ 45 := by simpa using h28
       have := hn (by omega)
       refine sq (rg [] rfl ?_)
       refine WP.seqJ (α := Unit) (fun _ => mkSt [(2, .ptr (.s 2 0) 1 0 []), (3, .rp 120 (encIns x)), (4, .ptr (.s 4 0) 1 0 []), (5, .int (if x.op > 15 then regI g x.c else 0))] [(.s 2 0, .cells ⟨59, 1, fun _ => encGo { g with pc := g.pc + 1 }, 0⟩), (.s 4 0, .cells ⟨59, 1, fun _ => (T 59).zero, 0⟩)]) (fun _ => True) ?_ ?_
       ·refine sq (rg [] rfl ?_)
        refine cd rfl (fun h4 => ?_) (fun h4 => ?_)
        ·have h16 : x.op > 15 := by simpa using h4
         have := hn2 (by omega)
         refine rgs [] rfl ?_ ?_
         ·simp [-List.getD_eq_getElem?_getD, holdsC, under]; omega
         refine ⟨(), ?_, ?_⟩
         ·trivial
         ·refine em [] trivial ⟨⟨rfl, _, rfl, cvt⟩, ⟨rfl, _, rfl, cvt⟩, ⟨rfl, _, rfl, cvt⟩, ⟨rfl, _, rfl, conv_eq (by rw [if_pos h16])⟩, trivial⟩ ⟨obs rfl, obs rfl, trivial⟩
        ·refine sk ?_
         refine ⟨(), ?_, ?_⟩
         ·trivial
         ·refine em [] trivial ⟨⟨rfl, _, rfl, cvt⟩, ⟨rfl, _, rfl, cvt⟩, ⟨rfl, _, rfl, cvt⟩, ⟨rfl, _, rfl, conv_eq (by rw [if_neg (by simpa using h4)])⟩, trivial⟩ ⟨obs rfl, obs rfl, trivial⟩
       ·rintro _ h_inv
        refine sq (drs [CG.pure (.tup [.int (numF g x).1, .int (numF g x).2])] rfl ?_ ?_)
        ·have hq := apply_ac x.op (regI g x.b) (if x.op > 15 then regI g x.c else 0)
         simp only [holdsC, under, CG.pure]
         repeat' with_reducible refine And.intro ?_ ?_
         all_goals (try with_reducible intros)
         all_goals (first | exact trivial | assumption | omega | exact hq | (simp; done) | grind)
        refine sq (sq (rg [] rfl ?_))
        refine bk (sq (rg [] rfl ?_))
        refine cd rfl (fun h8 => ?_) (fun h8 => ?_)
        ·have hz : (numF g x).2 = 20 := by simpa using h8
         refine sq (rg [] rfl ?_)
         refine sq ?_
         refine WP.ent (st' := mkSt [(2, .ptr (.s 2 0) 1 0 []), (4, .ptr (.s 4 0) 1 0 [])] [(.s 2 0, .cells ⟨59, 1, fun _ => encGo g, 0⟩), (.s 4 0, .cells ⟨59, 1, fun _ => (T 59).zero, 0⟩)]) (em [] trivial ⟨⟨rfl, _, rfl, cvt⟩, ⟨rfl, _, rfl, cvt⟩, trivial⟩ ⟨obs rfl (hg := q0 (conv_eq (dec_pc hpc))), obs rfl, trivial⟩) ?_
         refine rgs [CG.pure (encGo (endG g 4 2))] rfl ?_ ?_
         ·have hq := done_ac g 4 2
          simp only [holdsC, under, CG.pure]
          repeat' with_reducible refine And.intro ?_ ?_
          all_goals (try with_reducible intros)
          all_goals (first | exact trivial | assumption | omega | exact hq | (simp; done) | grind)
         refine WP.ret ?_
         change Fin ..
         refine fin_cell hT rfl rfl rfl rfl rfl (conv_eq ?_) rfl rfl rfl
         rw [locF, if_neg e0, if_neg e1, if_neg e2, if_neg e3, if_neg e4, if_neg e5, if_pos hz]
         rfl
        ·have hz : (numF g x).2 ≠ 20 := by simpa using h8
         refine sq (rg [] rfl ?_)
         refine cd rfl (fun h11 => ?_) (fun h11 => ?_)
         ·have hy : (numF g x).2 = 21 := by simpa using h11
          refine sq (rg [] rfl ?_)
          refine sq ?_
          refine WP.ent (st' := mkSt [(2, .ptr (.s 2 0) 1 0 []), (4, .ptr (.s 4 0) 1 0 [])] [(.s 2 0, .cells ⟨59, 1, fun _ => encGo g, 0⟩), (.s 4 0, .cells ⟨59, 1, fun _ => (T 59).zero, 0⟩)]) (em [] trivial ⟨⟨rfl, _, rfl, cvt⟩, ⟨rfl, _, rfl, cvt⟩, trivial⟩ ⟨obs rfl (hg := q0 (conv_eq (dec_pc hpc))), obs rfl, trivial⟩) ?_
          refine rgs [CG.pure (encGo (endG g 4 3))] rfl ?_ ?_
          ·have hq := done_ac g 4 3
           simp only [holdsC, under, CG.pure]
           repeat' with_reducible refine And.intro ?_ ?_
           all_goals (try with_reducible intros)
           all_goals (first | exact trivial | assumption | omega | exact hq | (simp; done) | grind)
          refine WP.ret ?_
          change Fin ..
          refine fin_cell hT rfl rfl rfl rfl rfl (conv_eq ?_) rfl rfl rfl
          rw [locF, if_neg e0, if_neg e1, if_neg e2, if_neg e3, if_neg e4, if_neg e5, if_neg hz, if_pos hy]
          rfl
         ·have hy : (numF g x).2 ≠ 21 := by simpa using h11
          refine sk (rgs [] rfl ?_ ?_)
          ·simp [-List.getD_eq_getElem?_getD, holdsC, under]; omega
          refine sq (rg [] rfl ?_)
          refine WP.ret ?_
          change Fin ..
          refine fin_cell hT rfl rfl rfl rfl rfl (conv_eq ?_) rfl rfl rfl
          rw [locF, if_neg e0, if_neg e1, if_neg e2, if_neg e3, if_neg e4, if_neg e5, if_neg hz, if_neg hy]
          exact putGo_reg _ (by show x.a.toNat < g.regs.length; omega)
end Go.Ab


/- Local instructions are run to their end; how a program begins; Settle. -/
set_option autoImplicit false
set_option maxRecDepth 20000
set_option maxHeartbeats 4000000
set_option linter.unusedSimpArgs false
set_option linter.unusedVariables false
namespace Go.Ab
open Go.Proofs
abbrev atF (F : PFun) (g : PGo) : PIns := F.code.getD g.pc.toNat ins0
def runB (F : PFun) (g : PGo) : Bool := g.status == 1 && locB (atF F g).op
def setF (F : PFun) : Nat → PGo → PGo
  | 0, g => if runB F g then { g with status := 5 } else g
  | n + 1, g => if runB F g then setF F n (locF g (atF F g)) else g
def goodG (F : PFun) (g : PGo) : Prop := okGo g ∧ bndP g.pc F.code.length
theorem next_pc {p : PProg} {F : PFun} (hF : FunP p F) {n : Int} (h : bndP n F.code.length) (he : endO (F.code.getD n.toNat ins0).op = false) : bndP (n + 1) F.code.length := by
  have h1 := hF.last
  have h2 := hF.code
  unfold bndP at h ⊢
  refine ⟨by omega, ?_⟩
  rcases Int.lt_or_le (n + 1) F.code.length with hl | hl
  · exact hl
  · have e : n.toNat = F.code.length - 1 := by omega
    rw [e] at he
    unfold lastO at h1
    rw [h1] at he; cases he
theorem ins_at {p : PProg} {F : PFun} (hF : FunP p F) {n : Int} (h : bndP n F.code.length) : InsP p F (F.code.getD n.toNat ins0) := by
  unfold bndP at h
  have h1 : n.toNat < F.code.length := by omega
  rw [List.getD_eq_getElem?_getD, List.getElem?_eq_getElem h1]
  exact hF.ins _ (List.getElem_mem h1)
theorem locF_ok {p : PProg} {F : PFun} (hF : FunP p F) {g : PGo} (hg : goodG F g) (hl : locB (atF F g).op = true) : goodG F (locF g (atF F g)) ∧ (locF g (atF F g)).func = g.func := by
  obtain ⟨h1, h2⟩ := hg
  have hi := ins_at hF h2
  have hn : (atF F g).op ≠ 42 → (atF F g).op ≠ 45 → bndP (g.pc + 1) F.code.length := fun a b => next_pc hF h2 (by
    have : (atF F g).op ≠ 61 := by simp [-List.getD_eq_getElem?_getD, locB] at hl; omega
    simp only [endO, Bool.or_eq_false_iff, beq_eq_false_iff_ne]
    exact ⟨⟨a, b⟩, this⟩)
  have hs : ∀ r v, okGo (setR { g with pc := g.pc + 1 } r v) := fun r v => by
    show (g.regs.set _ _).length = 8
    rw [List.length_set]; exact h1
  unfold locF
  split
  · rename_i e; exact ⟨⟨hs _ _, hn (by omega) (by omega)⟩, rfl⟩
  split
  · rename_i e; exact ⟨⟨hs _ _, hn (by omega) (by omega)⟩, rfl⟩
  split
  · rename_i e; exact ⟨⟨h1, hi.jump e⟩, rfl⟩
  split
  · rename_i e
    split
    · exact ⟨⟨h1, hi.cond e⟩, rfl⟩
    · exact ⟨⟨h1, hn (by omega) (by omega)⟩, rfl⟩
  split
  · rename_i e
    split
    · exact ⟨⟨rfl, h2⟩, rfl⟩
    · exact ⟨⟨h1, hn (by omega) (by omega)⟩, rfl⟩
  split
  · exact ⟨⟨rfl, h2⟩, rfl⟩
  split
  · exact ⟨⟨rfl, h2⟩, rfl⟩
  split
  · exact ⟨⟨rfl, h2⟩, rfl⟩
  · exact ⟨⟨hs _ _, hn (by assumption) (by assumption)⟩, rfl⟩
theorem setF_ok {p : PProg} {F : PFun} (hF : FunP p F) : ∀ {n : Nat} {g : PGo}, goodG F g → goodG F (setF F n g) ∧ (setF F n g).func = g.func
  | 0, g, h => by
    rw [setF]; split
    · exact ⟨⟨h.1, h.2⟩, rfl⟩
    · exact ⟨h, rfl⟩
  | n + 1, g, h => by
    rw [setF]; split
    · rename_i hr
      have hl : locB (atF F g).op = true := by
        have h3 := hr; rw [runB, Bool.and_eq_true] at h3; exact h3.2
      obtain ⟨h1, h2⟩ := locF_ok hF h hl
      obtain ⟨h3, h4⟩ := setF_ok hF (n := n) h1
      exact ⟨h3, h4.trans h2⟩
    · exact ⟨h, rfl⟩
theorem zeroGo : (T 59).zero = encGo go0 := congrArg (fun z => stru 59 [.int 0, .int 0, .int 0, .int 0, z]) (zero8A _)
theorem zero4A (t : Nat) : (AV.agg t 4 fun _ => AV.int 0) = arrI t 4 .i64 [0, 0, 0, 0] := agg_ext fun i => by match i with | 0 | 1 | 2 | 3 => rfl | i + 4 => rfl
theorem zeroCh : (T 56).zero = encCh ch0 := congrArg (fun z => stru 56 [z, .int 0, .bool false, .int 0, .int 0, .int 0]) (zero4A _)
theorem zeroS : (T 62).zero = encS st0 := by
  have h1 : (AV.agg 57 4 fun _ => (T 56).zero) = aggL 57 4 encCh ch0 st0.chans := agg_ext fun i => by rw [zeroCh]; match i with | 0 | 1 | 2 | 3 => rfl | i + 4 => rfl
  have h2 : (AV.agg 60 6 fun _ => (T 59).zero) = aggL 60 6 encGo go0 st0.gos := agg_ext fun i => by rw [zeroGo]; match i with | 0 | 1 | 2 | 3 | 4 | 5 => rfl | i + 6 => rfl
  show stru 62 [.agg 52 8 fun _ => .int 0, .agg 53 4 fun _ => .int 0, .agg 57 4 fun _ => (T 56).zero, .agg 60 6 fun _ => (T 59).zero, .int 0] = _
  rw [h1, h2, zero8A, zero4A]; rfl
theorem fuelled_ac (n : Int) : AC Tryz.prog T tysN 142 [.int n] [] (.bool (decide (0 ≤ n ∧ n ≤ 4096))) [] := by
 refine AC_intro hT Tryz.func142 rfl rfl (Nat.le_of_ble_eq_true rfl) ?_
 refine sq (rg [] rfl ?_)
 refine sq (rg [] rfl ?_)
 refine WP.ret ?_
 change Fin ..
 refine fin1 hT (by rfl) ?_
 simp only [band]
 rw [Bool.eq_iff_iff]; simp
theorem settled_ac (p : PProg) (g : PGo) (n : Nat) (hp : ProgP p) (hb : bndP g.func p.funcs.length) (hg : goodG (fnOf p g) g) (hn : n ≤ 4096) : AC Tryz.prog T tysN 143 [encProg p, encGo g, .int n] [] (encGo (setF (fnOf p g) n g)) [] := by
 refine AC_intro hT Tryz.func143 rfl rfl (Nat.le_of_ble_eq_true rfl) ?_
 have hF : FunP p (fnOf p g) := hp.fn _ (by
   unfold bndP at hb
   rw [fnOf, List.getD_eq_getElem?_getD, List.getElem?_eq_getElem (show g.func.toNat < p.funcs.length by omega)]; exact List.getElem_mem _)
 have hcl := hF.code
 refine sq (rg [] rfl ?_)
 refine sq (rgs [] rfl ?_ ?_)
 ·unfold bndP at hb
  simp [-List.getD_eq_getElem?_getD, holdsC, under]; omega
 refine sq (bk ?_)
 refine WP.loop (α := Nat × PGo) (fun (⟨k, x⟩ : Nat × PGo) => mkSt [(2, .int k), (4, .ptr (.s 4 0) 1 0 []), (6, .ptr (.s 6 0) 1 0 []), (7, rowP 120 encIns ins0 (fnOf p g).code)] [(.s 4 0, .cells ⟨59, 1, fun _ => encGo x, 0⟩), (.s 6 0, .cells ⟨59, 1, fun _ => (T 59).zero, 0⟩)]) (fun (⟨k, x⟩ : Nat × PGo) => setF (fnOf p g) k x = setF (fnOf p g) n g ∧ goodG (fnOf p g) x ∧ k ≤ n) (fun (⟨k, x⟩ : Nat × PGo) => k) ?_ ?_
 ·refine ⟨⟨n, g⟩, ?_, ?_⟩
  ·exact ⟨rfl, hg, Nat.le_refl _⟩
  ·refine em [] trivial ⟨⟨rfl, _, rfl, cvt⟩, ⟨rfl, _, rfl, cvt⟩, ⟨rfl, _, rfl, cvt⟩, ⟨rfl, _, rfl, cvt⟩, trivial⟩ ⟨obs rfl, obs rfl, trivial⟩
 ·rintro ⟨k, x⟩ ⟨hs, hx, hk⟩
  have hpc := hx.2
  simp only [bndP] at hpc
  refine sq (sq (rgs [CG.pure (.bool (locB (atF (fnOf p g) x).op))] rfl ?_ ?_))
  ·have hq := plocal_ac (atF (fnOf p g) x).op
   simp only [holdsC, under, CG.pure]
   repeat' with_reducible refine And.intro ?_ ?_
   all_goals (try with_reducible intros)
   all_goals (first | exact trivial | assumption | omega | exact hq | (simp; done) | grind)
  refine cd rfl (fun h2 => ?_) (fun h2 => ?_)
  ·have hr : runB (fnOf p g) x = true := by simp only [band] at h2; exact h2
   have hl : locB (atF (fnOf p g) x).op = true := by
     have h3 := hr; rw [runB, Bool.and_eq_true] at h3; exact h3.2
   have hi := ins_at hF hx.2
   refine sk (bk (sq (sq (rg [] rfl ?_))))
   refine cd rfl (fun h3 => ?_) (fun h3 => ?_)
   ·have hk0 : k = 0 := by simp at h3; omega
    subst hk0
    refine sq (rg [] rfl ?_)
    refine sq (rg [] rfl ?_)
    refine WP.ret ?_
    change Fin ..
    refine fin_cell hT rfl rfl rfl rfl rfl (conv_eq ?_) rfl rfl rfl
    rw [← hs, setF, if_pos hr]
    exact putGo_status _ _
   ·have hk0 : 0 < k := by simp at h3; omega
    obtain ⟨j, rfl⟩ : ∃ j, k = j + 1 := ⟨k - 1, by omega⟩
    refine sk (sq (rg [] rfl ?_))
    refine drs [CG.pure (encGo (locF x (atF (fnOf p g) x)))] rfl ?_ ?_
    ·have hq := local_ac p (fnOf p g) x (atF (fnOf p g) x) hF hi hl hx.1 (by omega)
     simp only [holdsC, under, CG.pure]
     repeat' with_reducible refine And.intro ?_ ?_
     all_goals (try with_reducible intros)
     all_goals (first | exact trivial | assumption | omega | exact hq | (simp; done) | grind)
    refine ⟨⟨j, locF x (atF (fnOf p g) x)⟩, ?_, ?_, ?_⟩
    ·rw [setF, if_pos hr] at hs
     exact ⟨hs, (locF_ok hF hx hl).1, by omega⟩
    ·refine em [] trivial ⟨⟨rfl, _, rfl, conv_eq (by rw [wrap_id (by omega) (by omega)]; simp)⟩, ⟨rfl, _, rfl, cvt⟩, ⟨rfl, _, rfl, cvt⟩, ⟨rfl, _, rfl, cvt⟩, trivial⟩ ⟨obs rfl, obs rfl, trivial⟩
    ·(try simp only []); first | omega | grind
  ·have hr : runB (fnOf p g) x = false := by simp only [band] at h2; exact h2
   refine xt (sq (rg [] rfl ?_))
   refine WP.ret ?_
   change Fin ..
   refine fin_cell hT rfl rfl rfl rfl rfl (conv_eq ?_) rfl rfl rfl
   rw [← hs]
   cases k with
   | zero => rw [setF, if_neg (by rw [hr]; decide)]; rfl
   | succ j => rw [setF, if_neg (by rw [hr]; decide)]; rfl
def initTo (p : PProg) (i : Nat) : List Int := (List.range 8).map fun k => if k < i then (p.vars.getD k var0).init else 0
theorem initTo_len (p : PProg) (i : Nat) : (initTo p i).length = 8 := by simp [initTo]
theorem initTo_put {p : PProg} {i : Nat} (h : i < 8) : (initTo p i).set i (p.vars.getD i var0).init = initTo p (i + 1) := by
  refine List.ext_getElem (by simp [initTo]) fun k h1 h2 => ?_
  have hk : k < 8 := by simpa [initTo] using h2
  rw [List.getElem_set]
  simp only [initTo, List.getElem_map, List.getElem_range]
  split
  · subst_vars; rw [if_pos (by omega)]
  · by_cases e : k < i
    · rw [if_pos e, if_pos (by omega)]
    · rw [if_neg e, if_neg (by omega)]
def live0 : PGo := { go0 with status := 1 }
def begS (p : PProg) (n : Nat) : PSt := { st0 with vars := initTo p p.vars.length, gos := [setF (funAt p 0) n live0, go0, go0, go0, go0, go0], count := 1 }
def startF (p : PProg) (n : Int) : PSt × Int := if rightB p = false then (st0, 3) else if ¬ (0 ≤ n ∧ n ≤ 4096) then (st0, 1) else (begS p n.toNat, 0)
theorem good0 {p : PProg} (hp : ProgP p) : goodG (funAt p 0) live0 := ⟨rfl, by have := (hp.fn (funAt p 0) (by rw [funAt, List.getD_eq_getElem?_getD, List.getElem?_eq_getElem (show 0 < p.funcs.length by have := hp.funcs; omega)]; exact List.getElem_mem _)).code; exact ⟨by decide, by show (0 : Int) < _; omega⟩⟩
theorem start_ac (p : PProg) (n : Int) : AC Tryz.prog T tysN 101 [encProg p, .int n] [] (.tup [encS (startF p n).1, .int (startF p n).2]) [] := by
 refine AC_intro hT Tryz.func101 rfl rfl (Nat.le_of_ble_eq_true rfl) ?_
 refine sq (rg [] rfl ?_)
 refine sq (sq (rgs [CG.pure (.bool (rightB p))] rfl ?_ ?_))
 ·have hq := sright_ac p
  simp only [holdsC, under, CG.pure]
  repeat' with_reducible refine And.intro ?_ ?_
  all_goals (try with_reducible intros)
  all_goals (first | exact trivial | assumption | omega | exact hq | (simp; done) | grind)
 refine cd rfl (fun h1 => ?_) (fun h1 => ?_)
 ·have hr : rightB p = false := by simpa using h1
  refine sq (rg [] rfl ?_)
  refine WP.ret ?_
  change Fin ..
  exact finCT hT rfl rfl rfl (conv_eq (by rw [startF, if_pos hr]; exact zeroS)) (by rw [startF, if_pos hr])
 ·have hr : rightB p = true := by simpa using h1
  have hp := prog_ok hr
  refine sk (sq (sq (rgs [CG.pure (.bool (decide (0 ≤ n ∧ n ≤ 4096)))] rfl ?_ ?_)))
  ·have hq := fuelled_ac n
   simp only [holdsC, under, CG.pure]
   repeat' with_reducible refine And.intro ?_ ?_
   all_goals (try with_reducible intros)
   all_goals (first | exact trivial | assumption | omega | exact hq | (simp; done) | grind)
  refine cd rfl (fun h3 => ?_) (fun h3 => ?_)
  ·have hf : ¬ (0 ≤ n ∧ n ≤ 4096) := by simp at h3; omega
   refine sq (rg [] rfl ?_)
   refine WP.ret ?_
   change Fin ..
   exact finCT hT rfl rfl rfl (conv_eq (by rw [startF, if_neg (by simp [hr]), if_pos hf]; exact zeroS)) (by rw [startF, if_neg (by simp [hr]), if_pos hf])
  ·have hf : 0 ≤ n ∧ n ≤ 4096 := by simpa using h3
   obtain ⟨k, rfl⟩ := Int.eq_ofNat_of_zero_le hf.1
   have hvl := hp.vars
   have e1 : (T 62).zero.put [4] (.int 1) = encS { st0 with count := 1, vars := initTo p 0 } := by rw [zeroS, putS_count]; rfl
   refine sk (sq (rg [] rfl ?_))
   refine sq (sq (rg [] rfl ?_))
   refine bk ?_
   refine WP.loop (α := Nat) (fun i => mkSt [(1, .int k), (2, .rp 26 (encProg p)), (4, .ptr (.s 4 0) 1 0 []), (6, .ptr (.s 6 0) 1 0 []), (19, rowP 116 encVar var0 p.vars), (20, .int p.vars.length), (21, .int i)] [(.s 4 0, .cells ⟨62, 1, fun _ => (T 62).zero, 0⟩), (.s 6 0, .cells ⟨62, 1, fun _ => encS { st0 with count := 1, vars := initTo p i }, 0⟩)]) (fun i => i ≤ p.vars.length) (fun i => p.vars.length - i) ?_ ?_
   ·refine ⟨0, ?_, ?_⟩
    ·exact Nat.zero_le _
    ·refine em [(.s 2 0, 1)] ⟨sF, trivial⟩ ⟨⟨rfl, _, rfl, cvt⟩, ⟨rfl, _, rfl, rpv⟩, ⟨rfl, _, rfl, cvt⟩, ⟨rfl, _, rfl, cvt⟩, ⟨rfl, _, rfl, cvt⟩, ⟨rfl, _, rfl, cvt⟩, ⟨rfl, _, rfl, cvt⟩, trivial⟩ ⟨obs rfl, obs rfl (hg := q0 (conv_eq e1)), trivial⟩
   ·rintro i hi
    refine sq (rg [] rfl ?_)
    refine sq ?_
    refine cd rfl (fun h7 => ?_) (fun h7 => ?_)
    ·have hil : i < p.vars.length := by simp [-List.getD_eq_getElem?_getD] at h7; omega
     refine sk (sq (bk (sq (rgs [] rfl ?_ ?_))))
     ·simp [-List.getD_eq_getElem?_getD, holdsC, under]; omega
     refine rgs [] rfl ?_ ?_
     ·simp [-List.getD_eq_getElem?_getD, holdsC, under]; omega
     refine rg [] rfl ?_
     refine ⟨i + 1, ?_, ?_, ?_⟩
     ·exact hil
     ·refine em [] trivial ⟨⟨rfl, _, rfl, cvt⟩, ⟨rfl, _, rfl, cvt⟩, ⟨rfl, _, rfl, cvt⟩, ⟨rfl, _, rfl, cvt⟩, ⟨rfl, _, rfl, cvt⟩, ⟨rfl, _, rfl, cvt⟩, ⟨rfl, _, rfl, cvt⟩, trivial⟩ ⟨obs rfl, obs rfl (hg := q0 (conv_eq ((putS_var _ (by show _ < (initTo p i).length; rw [initTo_len]; omega)).trans (by simp only [Int.toNat_natCast]; rw [initTo_put (by omega)])))), trivial⟩
     ·(try simp only []); first | omega | grind
    ·have hil : i = p.vars.length := by simp [-List.getD_eq_getElem?_getD] at h7; omega
     subst hil
     have e2 : (T 59).zero.put [0] (.int 1) = encGo live0 := by rw [zeroGo]; exact putGo_status _ _
     refine xt (sq (rgs [CG.pure (encGo (setF (funAt p 0) k live0))] rfl ?_ ?_))
     ·have hq := settled_ac p live0 k hp ⟨by decide, by have := hp.funcs; show (0 : Int) < _; omega⟩ (good0 hp) (by omega)
      rw [← e2] at hq
      simp only [holdsC, under, CG.pure]
      repeat' with_reducible refine And.intro ?_ ?_
      all_goals (try with_reducible intros)
      all_goals (first | exact trivial | assumption | omega | exact hq | (simp; done) | grind)
     refine sq (rg [] rfl ?_)
     refine WP.ret ?_
     change Fin ..
     refine finCT hT rfl rfl rfl (conv_eq ?_) (by rw [startF, if_neg (by simp [hr]), if_neg (by simp; omega)])
     rw [startF, if_neg (by simp [hr]), if_neg (by simp; omega)]
     exact putS_go (by show 0 < 6; omega) rfl
def settleF (p : PProg) (s : PSt) (g n : Int) : PSt × Int :=
  if rightB p = false then (st0, 3) else if ¬ validP p s then (st0, 4) else if ¬ ((0 ≤ g ∧ g < 6) ∧ (0 ≤ n ∧ n ≤ 4096)) then (st0, 1) else if s.count ≤ g then (st0, 9) else
  if (goI s g).status = 1 ∨ (goI s g).status = 5 then ({ s with gos := s.gos.set g.toNat (setF (fnOf p (goI s g)) n.toNat { goI s g with status := 1 }) }, 0) else (s, 0)
theorem settle_ac (p : PProg) (s : PSt) (g n : Int) (hs : OkS s) : AC Tryz.prog T tysN 234 [encProg p, encS s, .int g, .int n] [] (.tup [encS (settleF p s g n).1, .int (settleF p s g n).2]) [] := by
 refine AC_intro hT Tryz.func234 rfl rfl (Nat.le_of_ble_eq_true rfl) ?_
 refine sq (rg [] rfl ?_)
 refine sq (sq ?_)
 refine WP.ent (st' := mkSt [(4, .rp 26 (encProg p)), (2, .int g), (3, .int n), (5, .ptr (.s 5 0) 1 0 []), (8, .ptr (.s 8 0) 1 0 [])] [(.s 5 0, .cells ⟨62, 1, fun _ => encS s, 0⟩), (.s 8 0, .cells ⟨62, 1, fun _ => (T 62).zero, 0⟩)]) (em [(.s 4 0, 1)] ⟨sF, trivial⟩ ⟨⟨rfl, _, rfl, rpv⟩, ⟨rfl, _, rfl, cvt⟩, ⟨rfl, _, rfl, cvt⟩, ⟨rfl, _, rfl, cvt⟩, ⟨rfl, _, rfl, cvt⟩, trivial⟩ ⟨obs rfl, obs rfl, trivial⟩) ?_
 refine rgs [CG.pure (.bool (rightB p))] rfl ?_ ?_
 ·have hq := sright_ac p
  simp only [holdsC, under, CG.pure]
  repeat' with_reducible refine And.intro ?_ ?_
  all_goals (try with_reducible intros)
  all_goals (first | exact trivial | assumption | omega | exact hq | (simp; done) | grind)
 refine cd rfl (fun h1 => ?_) (fun h1 => ?_)
 ·have hr : rightB p = false := by simpa using h1
  refine sq (rg [] rfl ?_)
  refine WP.ret ?_
  change Fin ..
  exact finCT hT rfl rfl rfl (conv_eq (by rw [settleF, if_pos hr]; exact zeroS)) (by rw [settleF, if_pos hr])
 ·have hr : rightB p = true := by simpa using h1
  have hp := prog_ok hr
  have hr0 : ¬ rightB p = false := by simp [hr]
  refine sk (sq (sq (rgs [CG.pure (.bool (decide (validP p s)))] rfl ?_ ?_)))
  ·have hq := valid_ac p s hs
   simp only [holdsC, under, CG.pure]
   repeat' with_reducible refine And.intro ?_ ?_
   all_goals (try with_reducible intros)
   all_goals (first | exact trivial | assumption | omega | exact hq | (simp; done) | grind)
  refine cd rfl (fun h3 => ?_) (fun h3 => ?_)
  ·have hv : ¬ validP p s := by simpa using h3
   refine sq (rg [] rfl ?_)
   refine WP.ret ?_
   change Fin ..
   exact finCT hT rfl rfl rfl (conv_eq (by rw [settleF, if_neg hr0, if_pos hv]; exact zeroS)) (by rw [settleF, if_neg hr0, if_pos hv])
  ·have hv : validP p s := by simpa using h3
   have hv0 : ¬ ¬ validP p s := fun h => h hv
   refine sk (sq (sq (rgs [CG.pure (.bool (decide (0 ≤ n ∧ n ≤ 4096)))] rfl ?_ ?_)))
   ·have hq := fuelled_ac n
    simp only [holdsC, under, CG.pure]
    repeat' with_reducible refine And.intro ?_ ?_
    all_goals (try with_reducible intros)
    all_goals (first | exact trivial | assumption | omega | exact hq | (simp; done) | grind)
   refine cd rfl (fun h5 => ?_) (fun h5 => ?_)
   ·have ha : ¬ ((0 ≤ g ∧ g < 6) ∧ (0 ≤ n ∧ n ≤ 4096)) := by simp only [bor] at h5; simp at h5; omega
    refine sq (rg [] rfl ?_)
    refine WP.ret ?_
    change Fin ..
    exact finCT hT rfl rfl rfl (conv_eq (by rw [settleF, if_neg hr0, if_neg hv0, if_pos ha]; exact zeroS)) (by rw [settleF, if_neg hr0, if_neg hv0, if_pos ha])
   ·have ha : (0 ≤ g ∧ g < 6) ∧ (0 ≤ n ∧ n ≤ 4096) := by simp only [bor] at h5; simp at h5; omega
    have ha0 : ¬ ¬ ((0 ≤ g ∧ g < 6) ∧ (0 ≤ n ∧ n ≤ 4096)) := fun h => h ha
    refine sk (sq (sq (rg [] rfl ?_)))
    refine cd rfl (fun h7 => ?_) (fun h7 => ?_)
    ·have hc : s.count ≤ g := by simpa using h7
     refine sq (rg [] rfl ?_)
     refine WP.ret ?_
     change Fin ..
     exact finCT hT rfl rfl rfl (conv_eq (by rw [settleF, if_neg hr0, if_neg hv0, if_neg ha0, if_pos hc]; exact zeroS)) (by rw [settleF, if_neg hr0, if_neg hv0, if_neg ha0, if_pos hc])
    ·have hc : ¬ s.count ≤ g := by simpa using h7
     have hgl := hs.gos
     refine sk (sq (sq (rgs [] rfl ?_ ?_)))
     ·simp [-List.getD_eq_getElem?_getD, holdsC, under]; omega
     refine sq (rg [] rfl ?_)
     refine cd rfl (fun h10 => ?_) (fun h10 => ?_)
     ·have hst : (goI s g).status = 1 ∨ (goI s g).status = 5 := by simp only [bor] at h10; simp [-List.getD_eq_getElem?_getD] at h10; exact h10
      have hfit := (hv.2.2.2.2.1 g.toNat (by omega)).1 (by omega)
      have e1 : (encGo (goI s g)).put [0] (.int 1) = encGo { goI s g with status := 1 } := putGo_status _ _
      obtain ⟨k, rfl⟩ := Int.eq_ofNat_of_zero_le ha.2.1
      refine sq (rg [] rfl ?_)
      refine rgs [CG.pure (encGo (setF (fnOf p (goI s g)) k { goI s g with status := 1 }))] rfl ?_ ?_
      ·have hq := settled_ac p { goI s g with status := 1 } k hp hfit.2.1 ⟨okGo_at hs _, hfit.2.2.1⟩ (by omega)
       rw [← e1] at hq
       simp only [holdsC, under, CG.pure]
       repeat' with_reducible refine And.intro ?_ ?_
       all_goals (try with_reducible intros)
       all_goals (first | exact trivial | assumption | omega | exact hq | (simp; done) | grind)
      refine sq (rg [] rfl ?_)
      refine WP.ret ?_
      change Fin ..
      refine finCT hT rfl rfl rfl (conv_eq ?_) (by rw [settleF, if_neg hr0, if_neg hv0, if_neg ha0, if_neg hc, if_pos hst])
      rw [settleF, if_neg hr0, if_neg hv0, if_neg ha0, if_neg hc, if_pos hst]
      exact putS_go (by omega) (putGo _ _)
     ·have hst : ¬ ((goI s g).status = 1 ∨ (goI s g).status = 5) := by simp only [bor] at h10; simp [-List.getD_eq_getElem?_getD] at h10; exact fun h => h.elim h10.1 h10.2
      refine sk (sq (rg [] rfl ?_))
      refine WP.ret ?_
      change Fin ..
      refine finCT hT rfl rfl rfl (conv_eq ?_) (by rw [settleF, if_neg hr0, if_neg hv0, if_neg ha0, if_neg hc, if_neg hst])
      rw [settleF, if_neg hr0, if_neg hv0, if_neg ha0, if_neg hc, if_neg hst]
      rfl
end Go.Ab


/- What is ready: Live, at, sends, receives, ready. -/
set_option autoImplicit false
set_option maxRecDepth 20000
set_option maxHeartbeats 4000000
set_option linter.unusedSimpArgs false
set_option linter.unusedVariables false
namespace Go.Ab
open Go.Proofs
theorem len_snc {α : Type} (l : List α) (x : α) : (l ++ [x]).length = l.length + 1 := by simp
def liveB (g : PGo) : Bool := g.status == 1 || g.status == 2
def liveTo (s : PSt) : Nat → List Int
  | 0 => []
  | k + 1 => liveTo s k ++ (if liveB (s.gos.getD k go0) = true then [(k : Int)] else [])
abbrev liveL (s : PSt) : List Int := liveTo s 6
theorem liveTo_len (s : PSt) : ∀ k, (liveTo s k).length ≤ k
  | 0 => Nat.le_refl _
  | k + 1 => by have := liveTo_len s k; rw [liveTo, List.length_append]; split <;> simp <;> omega
theorem liveTo_mem {s : PSt} {x : Int} : ∀ {k : Nat}, x ∈ liveTo s k ↔ ∃ j : Nat, j < k ∧ x = j ∧ liveB (s.gos.getD j go0) = true
  | 0 => by simp [liveTo]
  | k + 1 => by
    rw [liveTo, List.mem_append, liveTo_mem]
    constructor
    · rintro (⟨j, h1, h2, h3⟩ | h)
      · exact ⟨j, by omega, h2, h3⟩
      · split at h
        · rename_i hb; exact ⟨k, by omega, by simpa using h, hb⟩
        · cases h
    · rintro ⟨j, h1, h2, h3⟩
      by_cases e : j = k
      · subst e; exact .inr (by rw [if_pos h3]; simpa using h2)
      · exact .inl ⟨j, by omega, h2, h3⟩
theorem live_ac (s : PSt) : AC Tryz.prog T tysN 115 [encS s] [] (ints false (liveL s)) [] := by
 refine AC_intro hT Tryz.func115 rfl rfl (Nat.le_of_ble_eq_true rfl) ?_
 refine sq (rg [] rfl ?_)
 refine sq (rg [] rfl ?_)
 refine sq (sq (rg [] rfl ?_))
 refine bk ?_
 refine WP.loop (α := Nat) (fun v => mkSt [(3, .own (.s 23 0) (liveTo s v).length 0 (liveTo s v).length none), (7, aggL 60 6 encGo go0 s.gos), (8, .int v)] [(.s 23 0, cellsI 3 .i64 (liveTo s v))]) (fun v => v ≤ 6) (fun v => 6 - v) ?_ ?_
 ·refine ⟨0, ?_, ?_⟩
  ·omega
  ·refine em [] trivial ⟨⟨rfl, _, rfl, conv_nil_own⟩, ⟨rfl, _, rfl, cvt⟩, ⟨rfl, _, rfl, cvt⟩, trivial⟩ ⟨⟨fun _ _ => rfl, .inr ⟨rfl, 3, _, rfl, by decide⟩⟩, trivial⟩
 ·rintro v hv6
  refine sq (rg [] rfl ?_)
  refine sq ?_
  refine cd rfl (fun h3 => ?_) (fun h3 => ?_)
  ·have hvl : v < 6 := by simp [-List.getD_eq_getElem?_getD] at h3; omega
   have hlen := liveTo_len s v
   refine sk (sq (bk (sq (rgs [] rfl ?_ ?_))))
   ·simp [-List.getD_eq_getElem?_getD, holdsC, under]; omega
   refine sq (rg [] rfl ?_)
   refine cd rfl (fun h5 => ?_) (fun h5 => ?_)
   ·have hb : liveB (s.gos.getD v go0) = true := by simp only [bor, Int.toNat_natCast] at h5; exact h5
    refine rgs [] rfl ?_ ?_
    ·have hbt : (T 3).bytes = 8 := rfl
     simp [holdsC, under, hbt]; omega
    refine rg [] rfl ?_
    refine ⟨v + 1, ?_, ?_, ?_⟩
    ·omega
    ·refine em [] trivial ⟨⟨rfl, _, rfl, conv_eq (by rw [liveTo, if_pos hb, len_snc])⟩, ⟨rfl, _, rfl, cvt⟩, ⟨rfl, _, rfl, cvt⟩, trivial⟩ ⟨ob_ints rfl rfl (by rw [liveTo, if_pos hb, len_snc]) rfl rfl (by rw [liveTo, if_pos hb]; exact app1 (z := (T 3).zero) rfl (fun q hq => rfl)), trivial⟩
    ·(try simp only []); first | omega | grind
   ·have hb : liveB (s.gos.getD v go0) = false := by simp only [bor, Int.toNat_natCast] at h5; exact h5
    refine sk (rg [] rfl ?_)
    refine ⟨v + 1, ?_, ?_, ?_⟩
    ·omega
    ·refine em [] trivial ⟨⟨rfl, _, rfl, conv_eq (by rw [liveTo, if_neg (by rw [hb]; decide), List.append_nil])⟩, ⟨rfl, _, rfl, cvt⟩, ⟨rfl, _, rfl, cvt⟩, trivial⟩ ⟨ob_ints rfl rfl (by rw [liveTo, if_neg (by rw [hb]; decide), List.append_nil]) rfl rfl (fun q hq => by rw [liveTo, if_neg (by rw [hb]; decide), List.append_nil]), trivial⟩
    ·(try simp only []); first | omega | grind
  ·have hvl : v = 6 := by simp [-List.getD_eq_getElem?_getD] at h3; omega
   subst hvl
   refine xt (sq (rg [] rfl ?_))
   refine WP.ret ?_
   change Fin ..
   refine fin_mk hT [(.s 23 0, (liveL s).length)] (ts := [(2, ints false (liveL s))]) (l := [ints false (liveL s)]) ⟨⟨_, rfl, Nat.le_refl _⟩, trivial⟩ ⟨⟨rfl, _, rfl, ?_⟩, trivial⟩ trivial rfl rfl rfl
   exact conv_row rfl rfl rfl (fun h => by cases h) (by simp [lookF, idbeq_self]) (fun q hq => by rw [Nat.zero_add]; exact ⟨rfl, AEq.refl _⟩)
theorem slive_ac (s : PSt) (g : Int) (hg : 0 ≤ g ∧ g < 6) : AC Tryz.prog T tysN 158 [encS s, .int g] [] (.bool (liveB (goI s g))) [] := by
 refine AC_intro hT Tryz.func158 rfl rfl (Nat.le_of_ble_eq_true rfl) ?_
 refine sq (rg [] rfl ?_)
 refine sq ?_
 refine WP.ent (st' := mkSt [(2, .rp 62 (encS s)), (1, .int g)] []) (em [(.s 2 0, 1)] ⟨sF, trivial⟩ ⟨⟨rfl, _, rfl, rpv⟩, ⟨rfl, _, rfl, cvt⟩, trivial⟩ trivial) ?_
 refine rgs [] rfl ?_ ?_
 ·simp [-List.getD_eq_getElem?_getD, holdsC, under]; omega
 refine WP.ret ?_
 change Fin ..
 exact fin1 hT (by rfl) (by rw [bor]; rfl)
structure Stands (p : PProg) (s : PSt) (g : Int) : Prop where
  ok : OkS s
  valid : validP p s
  live : liveB (goI s g) = true
  pos : 0 ≤ g ∧ g < 6
theorem Stands.prog {p : PProg} {s : PSt} {g : Int} (h : Stands p s g) : ProgP p := prog_ok h.valid.1
theorem Stands.lt {p : PProg} {s : PSt} {g : Int} (h : Stands p s g) : g < s.count := by
  rcases Int.lt_or_le g s.count with h1 | h1
  · exact h1
  · have h2 := (h.valid.2.2.2.2.1 g.toNat (by have := h.pos; omega)).2 (by have := h.pos; omega)
    have h3 := h.live
    unfold goI at h3
    rw [h2] at h3; cases h3
theorem Stands.fit {p : PProg} {s : PSt} {g : Int} (h : Stands p s g) : fitP p (goI s g) := (h.valid.2.2.2.2.1 g.toNat (by have := h.pos; omega)).1 (by have := h.pos; have := h.lt; omega)
theorem Stands.fn {p : PProg} {s : PSt} {g : Int} (h : Stands p s g) : FunP p (fnOf p (goI s g)) := h.prog.fn _ (by
  have := h.fit.2.1; unfold bndP at this
  rw [fnOf, List.getD_eq_getElem?_getD, List.getElem?_eq_getElem (show (goI s g).func.toNat < p.funcs.length by omega)]; exact List.getElem_mem _)
theorem Stands.ins {p : PProg} {s : PSt} {g : Int} (h : Stands p s g) : InsP p (fnOf p (goI s g)) (insOf p (goI s g)) := ins_at h.fn h.fit.2.2.1
theorem offN_one {p : PProg} {s : PSt} {g : Int} : ∀ {c : Nat}, offN p s g c ≠ 0 → ∃ k, k < c ∧ k < p.chans.length ∧ (chAt s k).offer ≠ 0 ∧ (chAt s k).frm = g
  | c + 1, h => by
    rw [offN] at h
    split at h
    · rename_i e; exact ⟨c, by omega, e.1, e.2.1, e.2.2⟩
    · obtain ⟨k, h1, h2⟩ := offN_one (c := c) (by simpa using h)
      exact ⟨k, by omega, h2⟩
theorem Stands.wait {p : PProg} {s : PSt} {g : Int} (h : Stands p s g) (hw : (goI s g).status = 2) : (insOf p (goI s g)).op = 58 ∧ ∃ k : Nat, k < p.chans.length ∧ (insOf p (goI s g)).a = k ∧ (chAt s k).offer ≠ 0 ∧ (chAt s k).frm = g := by
  have hp := h.pos
  have h1 := h.valid.2.2.2.2.2.2 g.toNat (by omega) hw
  obtain ⟨k, h2, h3, h4, h5⟩ := offN_one (c := 4) (by rw [h1]; decide)
  have h6 := ((h.valid.2.2.2.2.2.1 k h2).1 h3).2.2.2.2.2.2 h4
  rw [h5] at h6
  rw [Int.toNat_of_nonneg hp.1] at h6
  exact ⟨h6.2.2.2.1, k, h3, h6.2.2.2.2, h4, by rw [h5]; exact Int.toNat_of_nonneg hp.1⟩
def atI (p : PProg) (s : PSt) (g : Int) : PIns := if (goI s g).status = 2 then { insOf p (goI s g) with op := 66 } else insOf p (goI s g)
theorem putIns_op (x : PIns) (n : Int) : (encIns x).put [0] (.int n) = encIns { x with op := n } := stru_put (Nat.le_of_ble_eq_true rfl)
theorem at_ac (p : PProg) (s : PSt) (g : Int) (h : Stands p s g) : AC Tryz.prog T tysN 131 [encProg p, encS s, .int g] [] (encIns (atI p s g)) [] := by
 refine AC_intro hT Tryz.func131 rfl rfl (Nat.le_of_ble_eq_true rfl) ?_
 refine sq (rg [] rfl ?_)
 refine sq ?_
 refine WP.ent (st' := mkSt [(3, .rp 26 (encProg p)), (4, .rp 62 (encS s)), (2, .int g), (6, .ptr (.s 6 0) 1 0 [])] [(.s 6 0, .cells ⟨120, 1, fun _ => (T 120).zero, 0⟩)]) (em [(.s 3 0, 1), (.s 4 0, 1)] ⟨sF, sF, trivial⟩ ⟨⟨rfl, _, rfl, rpv⟩, ⟨rfl, _, rfl, rpv⟩, ⟨rfl, _, rfl, cvt⟩, ⟨rfl, _, rfl, cvt⟩, trivial⟩ ⟨obs rfl, trivial⟩) ?_
 refine drs [] rfl ?_ ?_
 ·have h1 := h.pos; have h2 := h.fit.2.1; have h3 := h.fit.2.2.1
  simp only [bndP, fnOf, goI] at h2 h3
  simp [-List.getD_eq_getElem?_getD, holdsC, under]; omega
 refine sq (sq (rgs [] rfl ?_ ?_))
 ·have h1 := h.pos
  simp [-List.getD_eq_getElem?_getD, holdsC, under]; omega
 refine cd rfl (fun h2 => ?_) (fun h2 => ?_)
 ·have hw : (goI s g).status = 2 := by simp [-List.getD_eq_getElem?_getD] at h2; exact h2
  refine rg [] rfl ?_
  refine sq (rg [] rfl ?_)
  refine WP.ret ?_
  change Fin ..
  exact fin_cell hT rfl rfl rfl rfl rfl (conv_eq (by rw [atI, if_pos hw]; exact putIns_op _ _)) rfl rfl rfl
 ·have hw : ¬ (goI s g).status = 2 := by simp [-List.getD_eq_getElem?_getD] at h2; exact h2
  refine sk (sq (rg [] rfl ?_))
  refine WP.ret ?_
  change Fin ..
  exact fin_cell hT rfl rfl rfl rfl rfl (conv_eq (by rw [atI, if_neg hw]; rfl)) rfl rfl rfl
def sendsB (p : PProg) (s : PSt) (c : Int) : Bool := (chI s c).closed || (decide (p.chans.getD c.toNat 0 > 0) && decide ((chI s c).len < p.chans.getD c.toNat 0)) || (p.chans.getD c.toNat 0 == 0 && (chI s c).offer == 0)
def recvB (s : PSt) (c : Int) : Bool := decide ((chI s c).len > 0) || (chI s c).closed || (chI s c).offer == 1
theorem sends_ac (p : PProg) (s : PSt) (c : Int) (hc : bndP c p.chans.length) (h4 : p.chans.length ≤ 4) : AC Tryz.prog T tysN 166 [encProg p, encS s, .int c] [] (.bool (sendsB p s c)) [] := by
 refine AC_intro hT Tryz.func166 rfl rfl (Nat.le_of_ble_eq_true rfl) ?_
 unfold bndP at hc
 refine sq (rg [] rfl ?_)
 refine sq ?_
 refine WP.ent (st' := mkSt [(3, .rp 26 (encProg p)), (4, .rp 62 (encS s)), (2, .int c)] []) (em [(.s 3 0, 1), (.s 4 0, 1)] ⟨sF, sF, trivial⟩ ⟨⟨rfl, _, rfl, rpv⟩, ⟨rfl, _, rfl, rpv⟩, ⟨rfl, _, rfl, cvt⟩, trivial⟩ trivial) ?_
 refine rgs [] rfl ?_ ?_
 ·simp [-List.getD_eq_getElem?_getD, holdsC, under]; omega
 refine sq (drs [] rfl ?_ ?_)
 ·simp only [holdsC, under, CG.pure]
  repeat' with_reducible refine And.intro ?_ ?_
  all_goals (try with_reducible intros)
  all_goals (first | exact trivial | assumption | omega | (simp; done) | grind)
 refine WP.ret ?_
 change Fin ..
 exact fin1 hT (by rfl) (by simp only [bor, band]; rfl)
theorem receives_ac (s : PSt) (c : Int) (hc : 0 ≤ c ∧ c < 4) : AC Tryz.prog T tysN 167 [encS s, .int c] [] (.bool (recvB s c)) [] := by
 refine AC_intro hT Tryz.func167 rfl rfl (Nat.le_of_ble_eq_true rfl) ?_
 refine sq (rg [] rfl ?_)
 refine sq ?_
 refine WP.ent (st' := mkSt [(2, .rp 62 (encS s)), (1, .int c)] []) (em [(.s 2 0, 1)] ⟨sF, trivial⟩ ⟨⟨rfl, _, rfl, rpv⟩, ⟨rfl, _, rfl, cvt⟩, trivial⟩ trivial) ?_
 refine rgs [] rfl ?_ ?_
 ·simp [-List.getD_eq_getElem?_getD, holdsC, under]; omega
 refine sq (rg [] rfl ?_)
 refine WP.ret ?_
 change Fin ..
 exact fin1 hT (by rfl) (by simp only [bor, band]; rfl)
def thereB (s : PSt) (g k : Int) : Bool := decide (0 ≤ k ∧ k < s.count ∧ k ≠ g)
theorem there_ac (s : PSt) (g k : Int) : AC Tryz.prog T tysN 220 [encS s, .int g, .int k] [] (.bool (thereB s g k)) [] := by
 refine AC_intro hT Tryz.func220 rfl rfl (Nat.le_of_ble_eq_true rfl) ?_
 refine sq (rg [] rfl ?_)
 refine sq (rg [] rfl ?_)
 refine WP.ret ?_
 change Fin ..
 refine fin1 hT (by rfl) ?_
 simp only [band]
 rw [Bool.eq_iff_iff, thereB]; simp
 omega
def readyB (p : PProg) (s : PSt) (g : Int) : Bool :=
  if (atI p s g).op = 54 then varI s (atI p s g).a == regI (goI s g) (atI p s g).b else if (atI p s g).op = 55 then lckI s (atI p s g).a == 0 else if (atI p s g).op = 58 then sendsB p s (atI p s g).a else
  if (atI p s g).op = 59 then recvB s (atI p s g).b else if (atI p s g).op = 66 then (chI s (atI p s g).a).offer != 1 else
  if (atI p s g).op = 63 then (!thereB s g (regI (goI s g) (atI p s g).a) || !liveB (goI s (regI (goI s g) (atI p s g).a))) else visB (atI p s g).op
structure AtP (p : PProg) (s : PSt) (g : Int) : Prop where
  await : (atI p s g).op = 54 → (0 ≤ (atI p s g).a ∧ (atI p s g).a < 8) ∧ (0 ≤ (atI p s g).b ∧ (atI p s g).b < 8)
  lock : (atI p s g).op = 55 ∨ (atI p s g).op = 56 → 0 ≤ (atI p s g).a ∧ (atI p s g).a < 4
  send : (atI p s g).op = 58 ∨ (atI p s g).op = 60 ∨ (atI p s g).op = 66 → bndP (atI p s g).a p.chans.length
  recv : (atI p s g).op = 59 → bndP (atI p s g).b p.chans.length
  join : (atI p s g).op = 63 ∨ (atI p s g).op = 65 → 0 ≤ (atI p s g).a ∧ (atI p s g).a < 8
  ins : (atI p s g).op ≠ 66 → atI p s g = insOf p (goI s g)
theorem Stands.at {p : PProg} {s : PSt} {g : Int} (h : Stands p s g) : AtP p s g := by
  have hp := h.prog
  have hv := hp.vars; have hl := hp.locks
  have hr := h.fn.regs
  have hi := h.ins
  by_cases hw : (goI s g).status = 2
  · obtain ⟨h1, k, h2, h3, _⟩ := h.wait hw
    have e : (atI p s g).op = 66 := by rw [atI, if_pos hw]
    have ea : (atI p s g).a = k := by rw [atI, if_pos hw]; exact h3
    refine ⟨fun h => by omega, fun h => by omega, fun _ => ?_, fun h => by omega, fun h => by omega, fun h => absurd e h⟩
    unfold bndP; omega
  · have e : atI p s g = insOf p (goI s g) := by rw [atI, if_neg hw]
    have h66 : (insOf p (goI s g)).op ≠ 66 := by
      intro h6
      have := hi.op
      rw [h6] at this; revert this; decide
    rw [← e] at hi h66
    refine ⟨fun h => ?_, fun h => ?_, fun h => ?_, fun h => (hi.recv h).2.1, fun h => ?_, fun _ => e⟩
    · have := hi.store (.inr h); unfold regP bndP at this; omega
    · have := hi.lock h; omega
    · rcases h with h | h | h
      · exact (hi.send h).1
      · exact hi.close h
      · exact absurd h h66
    · have := hi.const (by omega); unfold regP at this; omega
theorem sready_ac (p : PProg) (s : PSt) (g : Int) (h : Stands p s g) : AC Tryz.prog T tysN 164 [encProg p, encS s, .int g] [] (.bool (readyB p s g)) [] := by
 refine AC_intro hT Tryz.func164 rfl rfl (Nat.le_of_ble_eq_true rfl) ?_
 have ha := h.at
 have h6 := h.pos
 have h4 := h.prog.chans
 have hc6 := h.valid.2.1.2
 refine sq (rg [] rfl ?_)
 refine sq ?_
 refine WP.ent (st' := mkSt [(3, .rp 26 (encProg p)), (4, .rp 62 (encS s)), (2, .int g)] []) (em [(.s 3 0, 1), (.s 4 0, 1)] ⟨sF, sF, trivial⟩ ⟨⟨rfl, _, rfl, rpv⟩, ⟨rfl, _, rfl, rpv⟩, ⟨rfl, _, rfl, cvt⟩, trivial⟩ trivial) ?_
 refine rgs [CG.pure (encIns (atI p s g))] rfl ?_ ?_
 ·have hq := at_ac p s g h
  simp only [holdsC, under, CG.pure]
  repeat' with_reducible refine And.intro ?_ ?_
  all_goals (try with_reducible intros)
  all_goals (first | exact trivial | assumption | omega | exact hq | (simp; done) | grind)
 refine sq ?_
 refine WP.ent (st' := mkSt [(7, .rp 120 (encIns (atI p s g))), (2, .int g), (3, .rp 26 (encProg p)), (4, .rp 62 (encS s))] []) (em [(.s 7 0, 1)] ⟨sF, trivial⟩ ⟨⟨rfl, _, rfl, rpv⟩, ⟨rfl, _, rfl, cvt⟩, ⟨rfl, _, rfl, cvt⟩, ⟨rfl, _, rfl, cvt⟩, trivial⟩ trivial) ?_
 refine rgs [] rfl ?_ ?_
 ·simp [-List.getD_eq_getElem?_getD, holdsC, under]; omega
 refine sq (sq ?_)
 refine WP.ent (st' := mkSt [(8, .rp 52 (arrI 52 8 .i64 (goI s g).regs)), (2, .int g), (3, .rp 26 (encProg p)), (4, .rp 62 (encS s)), (7, .rp 120 (encIns (atI p s g)))] []) (em [(.s 8 0, 1)] ⟨sF, trivial⟩ ⟨⟨rfl, _, rfl, rpv⟩, ⟨rfl, _, rfl, cvt⟩, ⟨rfl, _, rfl, cvt⟩, ⟨rfl, _, rfl, cvt⟩, ⟨rfl, _, rfl, cvt⟩, trivial⟩ trivial) ?_
 refine rg [] rfl ?_
 refine bk (sq (rg [] rfl ?_))
 refine cd rfl (fun h4 => ?_) (fun h4 => ?_)
 ·have e4 : (atI p s g).op = 54 := by simpa using h4
  have := ha.await e4
  refine sq (drs [] rfl ?_ ?_)
  ·simp [-List.getD_eq_getElem?_getD, holdsC, under]; omega
  refine WP.ret ?_
  change Fin ..
  exact fin1 hT (by rfl) (by rw [readyB, if_pos e4])
 ·have e4 : (atI p s g).op ≠ 54 := by simpa using h4
  refine sq (rg [] rfl ?_)
  refine cd rfl (fun h6 => ?_) (fun h6 => ?_)
  ·have e6 : (atI p s g).op = 55 := by simpa using h6
   have := ha.lock (.inl e6)
   refine sq (rgs [] rfl ?_ ?_)
   ·simp [-List.getD_eq_getElem?_getD, holdsC, under]; omega
   refine WP.ret ?_
   change Fin ..
   exact fin1 hT (by rfl) (by rw [readyB, if_neg e4, if_pos e6])
  ·have e6 : (atI p s g).op ≠ 55 := by simpa using h6
   refine sq (rg [] rfl ?_)
   refine cd rfl (fun h8 => ?_) (fun h8 => ?_)
   ·have e8 : (atI p s g).op = 58 := by simpa using h8
    refine sq (rgs [CG.pure (.bool (sendsB p s (atI p s g).a))] rfl ?_ ?_)
    ·have hq := sends_ac p s (atI p s g).a (ha.send (.inl e8)) h.prog.chans
     simp only [holdsC, under, CG.pure]
     repeat' with_reducible refine And.intro ?_ ?_
     all_goals (try with_reducible intros)
     all_goals (first | exact trivial | assumption | omega | exact hq | (simp; done) | grind)
    refine WP.ret ?_
    change Fin ..
    exact fin1 hT (by rfl) (by rw [readyB, if_neg e4, if_neg e6, if_pos e8])
   ·have e8 : (atI p s g).op ≠ 58 := by simpa using h8
    refine sq (rg [] rfl ?_)
    refine cd rfl (fun h10 => ?_) (fun h10 => ?_)
    ·have e10 : (atI p s g).op = 59 := by simpa using h10
     have hb := ha.recv e10
     unfold bndP at hb
     refine sq (rgs [CG.pure (.bool (recvB s (atI p s g).b))] rfl ?_ ?_)
     ·have hq := receives_ac s (atI p s g).b (by have := h.prog.chans; omega)
      simp only [holdsC, under, CG.pure]
      repeat' with_reducible refine And.intro ?_ ?_
      all_goals (try with_reducible intros)
      all_goals (first | exact trivial | assumption | omega | exact hq | (simp; done) | grind)
     refine WP.ret ?_
     change Fin ..
     exact fin1 hT (by rfl) (by rw [readyB, if_neg e4, if_neg e6, if_neg e8, if_pos e10])
    ·have e10 : (atI p s g).op ≠ 59 := by simpa using h10
     refine sq (rg [] rfl ?_)
     refine cd rfl (fun h12 => ?_) (fun h12 => ?_)
     ·have e12 : (atI p s g).op = 66 := by simpa using h12
      have hb := ha.send (.inr (.inr e12))
      unfold bndP at hb
      have := h.prog.chans
      refine sq (rgs [] rfl ?_ ?_)
      ·simp [-List.getD_eq_getElem?_getD, holdsC, under]; omega
      refine WP.ret ?_
      change Fin ..
      exact fin1 hT (by rfl) (by rw [readyB, if_neg e4, if_neg e6, if_neg e8, if_neg e10, if_pos e12])
     ·have e12 : (atI p s g).op ≠ 66 := by simpa using h12
      refine sq (rg [] rfl ?_)
      refine cd rfl (fun h14 => ?_) (fun h14 => ?_)
      ·have e14 : (atI p s g).op = 63 := by simpa using h14
       have hb := ha.join (.inl e14)
       refine sq (drs [CG.pure (.bool (thereB s g (regI (goI s g) (atI p s g).a))), CG.pure (.bool (liveB (goI s (regI (goI s g) (atI p s g).a))))] rfl ?_ ?_)
       ·have hq := there_ac s g (regI (goI s g) (atI p s g).a)
        have hq2 : thereB s g (regI (goI s g) (atI p s g).a) = true → _ := fun e => slive_ac s (regI (goI s g) (atI p s g).a) (by simp only [thereB, decide_eq_true_eq] at e; omega)
        simp only [holdsC, under, CG.pure]
        repeat' with_reducible refine And.intro ?_ ?_
        all_goals (try with_reducible intros)
        all_goals (first | exact trivial | assumption | omega | exact hq | (refine hq2 ?_; simp_all; done) | (simp_all; done))
       refine WP.ret ?_
       change Fin ..
       exact fin1 hT (by rfl) (by rw [readyB, if_neg e4, if_neg e6, if_neg e8, if_neg e10, if_neg e12, if_pos e14, bor])
      ·have e14 : (atI p s g).op ≠ 63 := by simpa using h14
       refine sk (sq (rgs [CG.pure (.bool (visB (atI p s g).op))] rfl ?_ ?_))
       ·have hq := pvisible_ac (atI p s g).op
        simp only [holdsC, under, CG.pure]
        repeat' with_reducible refine And.intro ?_ ?_
        all_goals (try with_reducible intros)
        all_goals (first | exact trivial | assumption | omega | exact hq | (simp; done) | grind)
       refine WP.ret ?_
       change Fin ..
       exact fin1 hT (by rfl) (by rw [readyB, if_neg e4, if_neg e6, if_neg e8, if_neg e10, if_neg e12, if_neg e14])
end Go.Ab


/- What is ready: alternatives; Ready. -/
set_option autoImplicit false
set_option maxRecDepth 20000
set_option maxHeartbeats 4000000
set_option linter.unusedSimpArgs false
set_option linter.unusedVariables false
namespace Go.Ab
open Go.Proofs
def giveL (l : List Int) (k : Int) (b : Bool) : List Int := if b then l ++ [k] else l
def giveO (l : List Int) : List Ob := [.cells ⟨23, 1, fun _ => .own (.b 1) l.length 0 l.length none, 0⟩, cellsI 3 .i64 l]
theorem give_ac (l : List Int) (k : Int) (b : Bool) (hl : l.length ≤ 100) : AC Tryz.prog T tysN 165 [.int k, .bool b, .ptr (.b 0) 1 0 []] [.cells ⟨23, 1, fun _ => .own (.b 1) l.length 0 l.length none, 0⟩, cellsI 3 .i64 l] (.tup []) [.cells ⟨23, 1, fun _ => .own (.b 1) (giveL l k b).length 0 (giveL l k b).length none, 0⟩, cellsI 3 .i64 (giveL l k b)] := by
 refine AC_intro hT Tryz.func165 rfl rfl (Nat.le_of_ble_eq_true rfl) ?_
 refine sq (rg [] rfl ?_)
 refine cd rfl (fun h0 => ?_) (fun h0 => ?_)
 ·refine rgs [] rfl ?_ ?_
  ·have hbt : (T 3).bytes = 8 := rfl
   simp [holdsC, under, hbt]; omega
  change Fin ..
  first
  | (refine fin_mk hT [] (ts := []) (l := []) trivial trivial ⟨obs rfl (hg := q0 (conv_eq (by rw [giveL, if_pos h0, len_snc]; rfl))), ob_ints rfl rfl (by rw [giveL, if_pos h0, len_snc]) rfl rfl (by rw [giveL, if_pos h0]; exact app1 (z := (T 3).zero) rfl (fun q hq => rfl)), trivial⟩ rfl rfl rfl)
  | (have e : giveL l k b = l := by rw [giveL, h0]; rfl
     rw [e]
     exact fin_mk hT [] (ts := []) (l := []) trivial trivial ⟨obs rfl, ob_ints rfl rfl rfl rfl rfl (fun q hq => rfl), trivial⟩ rfl rfl rfl)
 ·refine sk ?_
  change Fin ..
  first
  | (refine fin_mk hT [] (ts := []) (l := []) trivial trivial ⟨obs rfl (hg := q0 (conv_eq (by rw [giveL, if_pos h0, len_snc]; rfl))), ob_ints rfl rfl (by rw [giveL, if_pos h0, len_snc]) rfl rfl (by rw [giveL, if_pos h0]; exact app1 (z := (T 3).zero) rfl (fun q hq => rfl)), trivial⟩ rfl rfl rfl)
  | (have e : giveL l k b = l := by rw [giveL, h0]; rfl
     rw [e]
     exact fin_mk hT [] (ts := []) (l := []) trivial trivial ⟨obs rfl, ob_ints rfl rfl rfl rfl rfl (fun q hq => rfl), trivial⟩ rfl rfl rfl)
def caseB (p : PProg) (s : PSt) (c : PCase) : Bool := (c.send && sendsB p s c.chan) || (!c.send && recvB s c.chan)
def caseTo (p : PProg) (s : PSt) (q : PSel) : Nat → List Int
  | 0 => []
  | k + 1 => giveL (caseTo p s q k) k (caseB p s (caseAt q k))
theorem caseTo_len (p : PProg) (s : PSt) (q : PSel) : ∀ k, (caseTo p s q k).length ≤ k
  | 0 => Nat.le_refl _
  | k + 1 => by have := caseTo_len p s q k; rw [caseTo, giveL]; split <;> simp <;> omega
abbrev selI (p : PProg) (s : PSt) (g : Int) : PSel := selAt (fnOf p (goI s g)) (atI p s g).a.toNat
def altL (p : PProg) (s : PSt) (g : Int) : List Int :=
  if (atI p s g).op ≠ 61 then (if readyB p s g then [0] else []) else
  giveL (caseTo p s (selI p s g) (selI p s g).cases.length) (selI p s g).cases.length ((caseTo p s (selI p s g) (selI p s g).cases.length).length == 0 && (selI p s g).els != -1)
theorem Stands.sel {p : PProg} {s : PSt} {g : Int} (h : Stands p s g) (e : (atI p s g).op = 61) : bndP (atI p s g).a (fnOf p (goI s g)).sels.length ∧ SelP p (fnOf p (goI s g)) (selI p s g) := by
  have h1 := h.at.ins (by rw [e]; decide)
  have h2 : bndP (atI p s g).a (fnOf p (goI s g)).sels.length := by rw [h1]; exact h.ins.sel (by rw [← h1]; exact e)
  refine ⟨h2, ?_⟩
  unfold bndP at h2
  unfold selI selAt
  rw [List.getD_eq_getElem?_getD, List.getElem?_eq_getElem (show (atI p s g).a.toNat < (fnOf p (goI s g)).sels.length by omega)]
  exact h.fn.sel _ (List.getElem_mem _)
theorem altL_len {p : PProg} {s : PSt} {g : Int} (h : Stands p s g) : (altL p s g).length ≤ 5 := by
  unfold altL
  split
  · split <;> simp
  · rename_i e
    have := (h.sel (by simpa using e)).2.len
    have h2 := caseTo_len p s (selI p s g) (selI p s g).cases.length
    rw [giveL]; split <;> simp [-List.getD_eq_getElem?_getD] <;> omega
theorem alts_ac (p : PProg) (s : PSt) (g : Int) (h : Stands p s g) : AC Tryz.prog T tysN 116 [encProg p, encS s, .int g] [] (ints false (altL p s g)) [] := by
 refine AC_intro hT Tryz.func116 rfl rfl (Nat.le_of_ble_eq_true rfl) ?_
 have h6 := h.pos
 have hc4 := h.prog.chans
 refine sq (rg [] rfl ?_)
 refine sq ?_
 refine WP.ent (st' := mkSt [(3, .rp 26 (encProg p)), (4, .rp 62 (encS s)), (2, .int g)] []) (em [(.s 3 0, 1), (.s 4 0, 1)] ⟨sF, sF, trivial⟩ ⟨⟨rfl, _, rfl, rpv⟩, ⟨rfl, _, rfl, rpv⟩, ⟨rfl, _, rfl, cvt⟩, trivial⟩ trivial) ?_
 refine rgs [CG.pure (encIns (atI p s g))] rfl ?_ ?_
 ·have hq := at_ac p s g h
  simp only [holdsC, under, CG.pure]
  repeat' with_reducible refine And.intro ?_ ?_
  all_goals (try with_reducible intros)
  all_goals (first | exact trivial | assumption | omega | exact hq | (simp; done) | grind)
 refine sq (sq ?_)
 refine WP.ent (st' := mkSt [(7, .rp 120 (encIns (atI p s g))), (2, .int g), (3, .rp 26 (encProg p)), (4, .rp 62 (encS s))] []) (em [(.s 7 0, 1)] ⟨sF, trivial⟩ ⟨⟨rfl, _, rfl, rpv⟩, ⟨rfl, _, rfl, cvt⟩, ⟨rfl, _, rfl, cvt⟩, ⟨rfl, _, rfl, cvt⟩, trivial⟩ trivial) ?_
 refine rg [] rfl ?_
 refine cd rfl (fun h2 => ?_) (fun h2 => ?_)
 ·have e61 : (atI p s g).op ≠ 61 := by simpa using h2
  refine sq (sq (rgs [CG.pure (.bool (readyB p s g))] rfl ?_ ?_))
  ·have hq := sready_ac p s g h
   simp only [holdsC, under, CG.pure]
   repeat' with_reducible refine And.intro ?_ ?_
   all_goals (try with_reducible intros)
   all_goals (first | exact trivial | assumption | omega | exact hq | (simp; done) | grind)
  refine cd rfl (fun h3 => ?_) (fun h3 => ?_)
  ·refine sq (rg [] rfl ?_)
   refine WP.ret ?_
   change Fin ..
   refine fin_mk hT [] (ts := [(6, ints false (altL p s g))]) (l := [ints false (altL p s g)]) trivial ⟨⟨rfl, _, rfl, ?_⟩, trivial⟩ trivial rfl rfl rfl
   have e : altL p s g = [0] := by rw [altL, if_pos e61, if_pos h3]
   rw [e]
   exact conv_rowL (fun h => by cases h) (fun i hi => by obtain rfl : i = 0 := Nat.lt_one_iff.1 hi; rfl)
  ·refine sk (sq (rg [] rfl ?_))
   refine WP.ret ?_
   change Fin ..
   refine fin_mk hT [] (ts := [(6, ints false (altL p s g))]) (l := [ints false (altL p s g)]) trivial ⟨⟨rfl, _, rfl, ?_⟩, trivial⟩ trivial rfl rfl rfl
   have e : altL p s g = [] := by rw [altL, if_pos e61, if_neg (by rw [h3]; decide)]
   rw [e]
   exact conv_nil_row (by decide)
 ·have e61 : (atI p s g).op = 61 := by simpa using h2
  have hse := h.sel e61
  have hsl := hse.2.len
  have hbn := hse.1; have hb2 := h.fit.2.1
  refine sk (sq (rg [] rfl ?_))
  refine sq (drs [] rfl ?_ ?_)
  ·simp only [bndP, fnOf, goI] at hbn hb2
   simp [-List.getD_eq_getElem?_getD, holdsC, under]; omega
  refine sq ?_
  refine WP.ent (st' := mkSt [(9, .rp 103 (encSel (selI p s g))), (3, .rp 26 (encProg p)), (4, .rp 62 (encS s)), (8, .ptr (.s 8 0) 1 0 [])] [(.s 8 0, .cells ⟨23, 1, fun _ => .nils, 0⟩)]) (em [(.s 9 0, 1)] ⟨sF, trivial⟩ ⟨⟨rfl, _, rfl, rpv⟩, ⟨rfl, _, rfl, cvt⟩, ⟨rfl, _, rfl, cvt⟩, ⟨rfl, _, rfl, cvt⟩, trivial⟩ ⟨obs rfl, trivial⟩) ?_
  refine rg [] rfl ?_
  refine sq (sq (rg [] rfl ?_))
  refine bk ?_
  refine WP.loop (α := Nat) (fun k => mkSt [(3, .rp 26 (encProg p)), (4, .rp 62 (encS s)), (8, .ptr (.s 8 0) 1 0 []), (9, .rp 103 (encSel (selI p s g))), (10, .clo 165 [.ptr (.s 8 0) 1 0 []]), (41, rowP 215 encCase case0 (selI p s g).cases), (42, .int (selI p s g).cases.length), (43, .int k)] [(.s 8 0, .cells ⟨23, 1, fun _ => .own (.s 99 0) (caseTo p s (selI p s g) k).length 0 (caseTo p s (selI p s g) k).length none, 0⟩), (.s 99 0, cellsI 3 .i64 (caseTo p s (selI p s g) k))]) (fun k => k ≤ (selI p s g).cases.length) (fun k => (selI p s g).cases.length - k) ?_ ?_
  ·refine ⟨0, ?_, ?_⟩
   ·exact Nat.zero_le _
   ·refine em [] trivial ⟨⟨rfl, _, rfl, cvt⟩, ⟨rfl, _, rfl, cvt⟩, ⟨rfl, _, rfl, cvt⟩, ⟨rfl, _, rfl, cvt⟩, ⟨rfl, _, rfl, cvt⟩, ⟨rfl, _, rfl, cvt⟩, ⟨rfl, _, rfl, cvt⟩, ⟨rfl, _, rfl, cvt⟩, trivial⟩ ⟨obs rfl (hg := q0 conv_nil_own), ⟨fun _ _ => rfl, .inr ⟨rfl, 3, _, rfl, by decide⟩⟩, trivial⟩
  ·rintro k hk
   have hcl := caseTo_len p s (selI p s g) k
   refine sq (rg [] rfl ?_)
   refine sq ?_
   refine cd rfl (fun h10 => ?_) (fun h10 => ?_)
   ·have hkl : k < (selI p s g).cases.length := by simp [-List.getD_eq_getElem?_getD] at h10; omega
    have hcp := hse.2.case (caseAt (selI p s g) k) (by unfold caseAt; rw [List.getD_eq_getElem?_getD, List.getElem?_eq_getElem hkl]; exact List.getElem_mem _)
    have hch := hcp.chan
    refine sk (sq (bk (sq (rgs [] rfl ?_ ?_))))
    ·simp [-List.getD_eq_getElem?_getD, holdsC, under]; omega
    refine rgs [CG.pure (.bool (sendsB p s (caseAt (selI p s g) k).chan)), CG.pure (.bool (recvB s (caseAt (selI p s g) k).chan)), ⟨true, [.s 8 0, .s 99 0], .tup [], giveO (giveL (caseTo p s (selI p s g) k) k (caseB p s (caseAt (selI p s g) k)))⟩] rfl ?_ ?_
    ·have hq := sends_ac p s (caseAt (selI p s g) k).chan hch hc4
     have hq2 := receives_ac s (caseAt (selI p s g) k).chan (by unfold bndP at hch; omega)
     have hq3 := give_ac (caseTo p s (selI p s g) k) k (caseB p s (caseAt (selI p s g) k)) (by omega)
     have e : (bif (bif (caseAt (selI p s g) k).send then sendsB p s (caseAt (selI p s g) k).chan else false) then true else (bif !(caseAt (selI p s g) k).send then recvB s (caseAt (selI p s g) k).chan else false)) = caseB p s (caseAt (selI p s g) k) := by simp only [bor, band]; rfl
     have ho1 : okOs [.s 8 0, .s 99 0] [.cells ⟨23, 1, fun _ => .own (.s 99 0) (caseTo p s (selI p s g) k).length 0 (caseTo p s (selI p s g) k).length none, 0⟩, cellsI 3 .i64 (caseTo p s (selI p s g) k)] := ⟨fun _ _ => rfl, fun _ _ => rfl, trivial⟩
     have ho2 : okOs (bs 2) (giveO (giveL (caseTo p s (selI p s g) k) k (caseB p s (caseAt (selI p s g) k)))) := ⟨fun _ _ => rfl, fun _ _ => rfl, trivial⟩
     rw [← e] at hq3 ho2 ⊢
     simp only [holdsC, under, CG.pure]
     repeat' with_reducible refine And.intro ?_ ?_
     all_goals (try with_reducible intros)
     all_goals (first | exact trivial | assumption | omega | exact hq | exact hq2 | exact hq3 | exact ho1 | exact ho2 | (simp; done) | grind)
    refine rg [] rfl ?_
    refine ⟨k + 1, ?_, ?_, ?_⟩
    ·exact hkl
    ·refine em [] trivial ⟨⟨rfl, _, rfl, cvt⟩, ⟨rfl, _, rfl, cvt⟩, ⟨rfl, _, rfl, cvt⟩, ⟨rfl, _, rfl, cvt⟩, ⟨rfl, _, rfl, cvt⟩, ⟨rfl, _, rfl, cvt⟩, ⟨rfl, _, rfl, cvt⟩, ⟨rfl, _, rfl, cvt⟩, trivial⟩ ⟨obs rfl, ob_ints rfl rfl rfl rfl rfl (fun q hq => rfl), trivial⟩
    ·(try simp only []); first | omega | grind
   ·have hkl : k = (selI p s g).cases.length := by simp [-List.getD_eq_getElem?_getD] at h10; omega
    subst hkl
    refine xt (sq (rgs [⟨true, [.s 8 0, .s 99 0], .tup [], giveO (altL p s g)⟩] rfl ?_ ?_))
    ·have hq3 := give_ac (caseTo p s (selI p s g) (selI p s g).cases.length) (selI p s g).cases.length ((caseTo p s (selI p s g) (selI p s g).cases.length).length == 0 && (selI p s g).els != -1) (by omega)
     have e : giveL (caseTo p s (selI p s g) (selI p s g).cases.length) (selI p s g).cases.length ((caseTo p s (selI p s g) (selI p s g).cases.length).length == 0 && (selI p s g).els != -1) = altL p s g := by rw [altL, if_neg (by simp [e61])]
     have e2 : ((caseTo p s (selI p s g) (selI p s g).cases.length).length == 0 && (selI p s g).els != -1) = (bif (((caseTo p s (selI p s g) (selI p s g).cases.length).length : Int) == 0) then (selI p s g).els != -1 else false) := by rw [band]; congr 1; rw [Bool.eq_iff_iff]; simp
     rw [e, e2] at hq3
     have ho1 : okOs [.s 8 0, .s 99 0] [.cells ⟨23, 1, fun _ => .own (.s 99 0) (caseTo p s (selI p s g) (selI p s g).cases.length).length 0 (caseTo p s (selI p s g) (selI p s g).cases.length).length none, 0⟩, cellsI 3 .i64 (caseTo p s (selI p s g) (selI p s g).cases.length)] := ⟨fun _ _ => rfl, fun _ _ => rfl, trivial⟩
     have ho2 : okOs (bs 2) (giveO (altL p s g)) := ⟨fun _ _ => rfl, fun _ _ => rfl, trivial⟩
     simp only [holdsC, under, CG.pure]
     repeat' with_reducible refine And.intro ?_ ?_
     all_goals (try with_reducible intros)
     all_goals (first | exact trivial | assumption | omega | exact hq3 | exact ho1 | exact ho2 | (simp; done) | grind)
    refine sq (rg [] rfl ?_)
    refine WP.ret ?_
    change Fin ..
    refine fin_mk hT [(.s 99 0, (altL p s g).length)] (ts := [(6, ints false (altL p s g))]) (l := [ints false (altL p s g)]) ⟨⟨_, rfl, Nat.le_refl _⟩, trivial⟩ ⟨⟨rfl, _, rfl, ?_⟩, trivial⟩ trivial rfl rfl rfl
    exact conv_row rfl rfl rfl (fun h => by cases h) (by simp [lookF, idbeq_self]) (fun q hq => by rw [Nat.zero_add]; exact ⟨rfl, AEq.refl _⟩)
end Go.Ab


/- Touches, events: what they are. -/
set_option autoImplicit false
set_option maxRecDepth 20000
set_option linter.unusedSimpArgs false
set_option linter.unusedVariables false
namespace Go.Ab
open Go.Proofs
structure Tch where
  kind : Int
  num : Int
  wr : Bool
  deriving DecidableEq
def encTch (x : Tch) : AV := stru 134 [.int x.kind, .int x.num, .bool x.wr]
def tch0 : Tch := ⟨0, 0, false⟩
structure Evt where
  go : Int
  a : Int
  b : Int
  op : Int
  c : Int
  val : Int
  tag : Int
  ts : List Tch
  n : Int
def encTs (l : List Tch) : AV := .agg 135 6 (fun i => encTch (l.getD i tch0))
def encE (x : Evt) : AV := stru 137 [.int x.go, .int x.a, .int x.b, .int x.op, .int x.c, .int x.val, .int x.tag, encTs x.ts, .int x.n]
theorem noIds_E (x : Evt) : noIds (encE x) = true := noIds_agg (fun i hi => by
  match i, hi with
  | 0, _ | 1, _ | 2, _ | 3, _ | 4, _ | 5, _ | 6, _ | 8, _ => rfl
  | 7, _ => exact noIds_agg (fun j _ => noIds_agg (fun q hq => by match q, hq with | 0, _ | 1, _ | 2, _ => rfl)))
def evt0 : Evt := ⟨0, 0, 0, 0, 0, 0, 0, [], 0⟩
def evts (f : Bool) (l : List Evt) : AV := .row 137 f l.length (fun i => encE (l.getD i evt0))
end Go.Ab


/- Of equal neighbours the first. -/
set_option autoImplicit false
set_option maxRecDepth 20000
set_option linter.unusedSimpArgs false
set_option linter.unusedVariables false
namespace Go.Ab
open Go.Proofs
section
variable {α : Type} [DecidableEq α] (d : α)
def dd (l : List α) : Nat → List α
  | 0 => []
  | k + 1 => if 0 < k ∧ l.getD k d = l.getD (k - 1) d then dd l k else dd l k ++ [l.getD k d]
theorem dd_len (l : List α) : ∀ k, (dd d l k).length ≤ k
  | 0 => Nat.le_refl _
  | k + 1 => by
    have := dd_len l k
    simp only [dd]
    split
    · omega
    · simp; omega
theorem dd_all (l : List α) : ∀ k, k ≤ l.length → (∀ j, 0 < j → j < k → l.getD j d ≠ l.getD (j - 1) d) → dd d l k = l.take k
  | 0, _, _ => rfl
  | k + 1, hk, h => by
    rw [dd, if_neg (fun e => h k e.1 (by omega) e.2), dd_all l k (by omega) (fun j h1 h2 => h j h1 (by omega))]
    rw [List.take_add_one]
    have : k < l.length := by omega
    simp [this]
theorem dd_skip {l : List α} {k : Nat} (h0 : 0 < k) (h : l.getD k d = l.getD (k - 1) d) : dd d l (k + 1) = dd d l k := by rw [dd, if_pos ⟨h0, h⟩]
theorem dd_more {l : List α} {k : Nat} (h : l.getD k d ≠ l.getD (k - 1) d) : dd d l (k + 1) = dd d l k ++ [l.getD k d] := by rw [dd, if_neg (fun e => h e.2)]
theorem same_len {l : List α} (h : ∀ j, 0 < j → j < l.length → l.getD j d ≠ l.getD (j - 1) d) : dd d l l.length = l := by
  rw [dd_all d l l.length (Nat.le_refl _) h, List.take_length]
theorem cells_dd {enc : α → AV} {l c : List α} {i : Nat} {z : AV} (ht : c.take i = dd d l l.length) (hi : i = (dd d l l.length).length) (hl : i ≤ l.length) (q : Nat) (hq : q < l.length) :
    (bif Nat.ble i q && Nat.blt q (i + (l.length - i)) then z else enc (c.getD q d)) = (bif Nat.blt q (dd d l l.length).length then enc ((dd d l l.length).getD q d) else z) := by
  by_cases h : i ≤ q
  · have e : (Nat.ble i q && Nat.blt q (i + (l.length - i))) = true := by simp [h, Nat.blt_eq]; omega
    have e2 : Nat.blt q (dd d l l.length).length = false := by
      cases hz : Nat.blt q (dd d l l.length).length with
      | false => rfl
      | true => rw [Nat.blt_eq] at hz; omega
    rw [e, e2, cond_true, cond_false]
  · have e : (Nat.ble i q && Nat.blt q (i + (l.length - i))) = false := by simp; intro h'; omega
    rw [e, cond_false, blt_bif (by omega), ← ht]
    simp only [List.getD_eq_getElem?_getD, List.getElem?_take]
    rw [if_pos (by omega)]
end
theorem toNat_pred {i : Nat} (h : 1 ≤ i) (h2 : i < 2 ^ 63) : (IntKind.i64.wrap ((i : Int) - 1)).toNat = i - 1 := by rw [wrap_id (by omega) (by omega)]; omega
theorem ok_dd {α : Type} {enc : α → AV} {z : AV} {ids : List Id} (h : ∀ a, okIds ids (enc a) = true) (hz : okIds ids z = true) (l : List α) {d : α} {q n : Nat} : okIds ids (bif Nat.blt q n then enc (l.getD q d) else z) = true := by
  cases Nat.blt q n
  · exact hz
  · exact h _
end Go.Ab


/- Ab, part 44: slices.SortFunc at elements of several cells: out of the library's contract. -/
set_option autoImplicit false
set_option linter.unusedVariables false
set_option linter.unusedSimpArgs false
namespace Go.Ab
open Go.Proofs Go.Sort
section
variable {α : Type} [Inhabited α]
def sortBy (cf : α → α → Int) (l : List α) : List α := (pdq (Go.Proofs.ltOf cf) l.toArray 0 l.length (Lib.bitLen l.length) true true).toList
theorem sortBy_spec {cf : α → α → Int} (hO : SWO (Go.Proofs.ltOf cf)) (l : List α) : PermIn 0 l.length l.toArray (sortBy cf l).toArray ∧ SortedIn (Go.Proofs.ltOf cf) 0 l.length (sortBy cf l).toArray := by
  have h := pdq_sorts (Go.Proofs.ltOf cf) hO l.toArray 0 l.length (Lib.bitLen l.length) true true (Nat.zero_le _) (by simp) (.inl rfl)
  exact ⟨by simpa [sortBy] using h.1, by simpa [sortBy] using h.2⟩
theorem sortBy_len {cf : α → α → Int} (hO : SWO (Go.Proofs.ltOf cf)) (l : List α) : (sortBy cf l).length = l.length := by
  have := (sortBy_spec hO l).1.1
  simpa using this
end
section
variable {P : Program} {T : Nat → TI} {N : Nat}
structure EncK (T : Nat → TI) (N E k : Nat) {α : Type} (encA : α → AV) (encV : α → List Value) : Prop where
  len : ∀ x, (encV x).length = k
  one : ∀ x, ∀ v ∈ encV x, v.oneCell' = true
  rep : ∀ I ρ x, Rep T N I ρ (encA x) (encV x)
  uni : ∀ I ρ x cs, Rep T N I ρ (encA x) cs → cs = encV x
  fits : ∀ x, fit T E (encA x) = true
  pack : ∀ x, packV (encA x) (encV x) = .agg (encV x).toArray
  size : (T E).size = k
  pos : 0 < k
theorem world_grow {A B : World} (h : Grown A B) : ∃ q os', B = grow (A.drewN q) os' := by
  refine ⟨B.drawn - A.drawn, B.heap.extract A.heap.size B.heap.size, ?_⟩
  obtain ⟨hp, tp, dr, os, out⟩ := B
  have h1 := h.os; have h2 := h.output; have h3 := h.tape
  simp only at h1 h2 h3
  simp only [grow, World.drewN, World.mk.injEq]
  refine ⟨?_, h3.1, by omega, h1, h2⟩
  apply Array.ext
  · have := h.size
    simp only [Array.size_append, Array.size_extract] at *
    omega
  · intro i hi hi2
    have := h.size
    rw [Array.getElem_append]
    split
    · rename_i hlt
      have := h.same i hlt
      simp only [Array.getElem?_eq_getElem hi, Array.getElem?_eq_getElem hlt, Option.some.injEq] at this
      exact this
    · rename_i hge
      rw [Array.getElem_extract]
      congr 1
      omega
theorem heap_putK {α : Type} [Inhabited α] (enc : α → List Value) (k : Nat) (w : World) (n blk off : Nat) (d : Array α) (os : Array Obj) {r : Nat} (hr : r < w.heap.size) :
    (sortWorldK enc k w blk off n d os).heap[r]? = if blk = r then (w.heap[r]?).map (onCells (putCells id off (flatK enc k d))) else w.heap[r]? := by
  unfold sortWorldK putRowK
  have h1 : r < (putRow id (Sort.ahead w n) blk off (flatK enc k d)).heap.size := by simpa [putRow, mapBlock, Sort.ahead] using hr
  rw [heap_grow_old _ _ h1]
  simp only [putRow, mapBlock, Sort.ahead, Array.getElem?_modify]
theorem cmp_lays {α : Type} [Inhabited α] {E k : Nat} {encA : α → AV} {encV : α → List Value} (hE : EncK T N E k encA encV) {cf : α → α → Int} {g : FuncId} (hc : ∀ x y, AC P T N g [encA x, encA y] [] (.v (.int .i64 (cf x y))) []) (blk off size : Nat) (w : World) (hgl : ∀ (b o n : Nat), (T b).glb[o]? = some n → w.cell? ⟨b, o, none⟩ = some (.int .u8 n) ∧ b ≠ blk) : CmpLays P g #[] encV k cf blk off size w := by
  intro m os dk hdk x y
  have h := (hc x y).2 (fun b o => ((T b).glb[o]?).map fun (m : Nat) => Value.int .u8 (m : Int)) noPl (sortWorldK encV k w blk off m dk os) [.agg (encV x).toArray, .agg (encV y).toArray] rfl (fun i a v ha hv => by
    match i with
    | 0 => simp at ha hv; subst ha hv; exact .one ⟨_, hE.rep _ _ x, (hE.pack x).symm⟩
    | 1 => simp at ha hv; subst ha hv; exact .one ⟨_, hE.rep _ _ y, (hE.pack y).symm⟩
    | i + 2 => simp at ha) ⟨fun id B h => (by cases id <;> simp [ofB] at h), fun id B h => (by cases id <;> simp [ofB] at h), fun id p h => (by cases h), fun i j p q h => (by cases h), fun b o y h => (by
      simp only [Option.map_eq_some_iff] at h
      obtain ⟨n, h1, rfl⟩ := h
      obtain ⟨h2, h3⟩ := hgl b o n h1
      rw [cell?_heap (w := w) ?_]
      · exact h2
      · rw [heap_putK encV k w m blk off dk os (cell?_lt h2), if_neg (fun e => h3 e.symm)]), fun b o n h => (by simp [h])⟩
  refine h.mono ?_
  rintro e w' ⟨v, I', ρ', rfl, hev, hv, _⟩
  exact ⟨by rw [hv.v.1], world_grow (Grown.of_ev hev)⟩
theorem sortF_ac (hT : TOK P T N) {ρr : Go.Shelf.Ren} (L : SlLaysF0.n6 P ρr) {α : Type} [Inhabited α] {E k : Nat} {encA : α → AV} {encV : α → List Value} (hE : EncK T N E k encA encV)
    (aE : ∀ w, (isAgg (ρr.t 24)).run P w = .ok true w) (zE : ∀ w, (Go.sizeOf (ρr.t 24)).run P w = .ok k w) {cf : α → α → Int} (hO : SWO (Go.Proofs.ltOf cf)) {g : FuncId} (eg : ∀ args w, (callFunc g args).run P w = .ok (.enter g args) w)
    (hc : ∀ x y, AC P T N g [encA x, encA y] [] (.v (.int .i64 (cf x y))) []) (hcall : callable P (ρr.f 6)) (l : List α) (hl62 : l.length < 4611686018427387904) :
    AC P T N (ρr.f 6) [.own (.b 0) l.length 0 l.length none, .clo g []] [cellsL E encA default l] (.tup []) [cellsL E encA default (sortBy cf l)] := by
  refine ⟨hcall, fun I ρ w vs hvl hvs hw => ?_⟩
  obtain ⟨v, c0, rfl⟩ : ∃ v c0, vs = [v, c0] := by
    match vs, hvl with
    | [v, c0], _ => exact ⟨v, c0, rfl⟩
  have hv := (hvs 0 _ v rfl rfl).rep1 (fun _ => by simp)
  have hv1 := (hvs 1 _ c0 rfl rfl).rep1 (fun _ => by simp)
  have hc0 : c0 = .func (.func g) #[] #[] := by
    obtain ⟨cs, h1, h2⟩ := hv1
    cases h1 with
    | clo ys hl h =>
      have : ys = #[] := Array.eq_empty_of_size_eq_zero (by simpa using hl)
      subst this
      exact h2
  subst hc0
  have hsl := sortBy_len hO l
  have hm : ofB [cellsL E encA default l] (.b 0) = some (cellsL E encA default l) := rfl
  have hset : ofB [cellsL E encA default (sortBy cf l)] = setM (ofB [cellsL E encA default l]) (.b 0) (cellsL E encA default (sortBy cf l)) := by
    funext a
    by_cases ha : a = .b 0
    · subst ha; rw [setM_self]; rfl
    · rw [setM_ne _ _ ha]
      cases a with
      | s _ _ => rfl
      | b j =>
        cases j with
        | zero => exact absurd rfl ha
        | succ j => rfl
  rcases Rep.own_inv hv with ⟨rfl, h0, _, _⟩ | ⟨q, hq, hqn, hx⟩
  · obtain rfl : l = [] := List.eq_nil_of_length_eq_zero h0
    refine (AnyF.slices_SortFunc_none L none 0 (.func (.func g) #[] #[]) w).mono ?_
    rintro e w' ⟨rfl, rfl⟩
    refine ⟨_, I, ρ, rfl, Ev.refl _ _ _, .tup _ rfl (fun i c hi => by simp at hi), ?_⟩
    rw [show sortBy cf ([] : List α) = [] from List.eq_nil_of_length_eq_zero hsl]; exact hw
  · obtain ⟨q', cs, c1, c2, c3, c4, c5, c6, c7, c8, c9, c10⟩ := hw.cellsAt hm hq
    rw [hq] at c1; cases c1
    obtain ⟨c, rfl, g1, g2, g3, g4, g5, g6⟩ := hx c3
    simp only [hE.size] at c7 c8
    have hk0 := hE.pos
    have hcell : ∀ j, j < l.length * k → cs[j]? = some ((encV (l.getD (j / k) default))[j % k]!) := by
      intro j hj
      have hjk : j / k < l.length := (Nat.div_lt_iff_lt_mul hk0).2 hj
      obtain ⟨seg, e1, e2, e3, e4⟩ := c8 (j / k) hjk
      have hseg := hE.uni _ _ _ _ e1
      subst hseg
      have hm := Nat.mod_lt j hk0
      have := e4 (j % k) hm
      rw [show j / k * k + j % k = j by rw [Nat.mul_comm]; exact Nat.div_add_mod j k] at this
      rw [this]
      have hlt : j % k < (encV (l.getD (j / k) default)).length := by rw [hE.len]; exact hm
      rw [List.getElem?_eq_getElem hlt, getElem!_pos (encV (l.getD (j / k) default)) (j % k) hlt]
    have hlt := hw.place_lt hq
    have hH : HoldsK encV k w q.b 0 l.toArray := by
      intro j hj
      have hj' : j < l.length * k := by simpa using hj
      refine ⟨?_, ?_⟩
      · simp only [World.cell?, c5, Nat.zero_add]
        rw [hcell j hj', get_flatK _ _ _ _ (by simpa using hj')]
        simp [List.getD_eq_getElem?_getD, getElem!_def]
        cases l[j / k]? <;> rfl
      · simp [World.frozen?, c5]
    have hcall2 := AnyQ.slices_SortFunc_eq L k aE zE encV hE.len hE.one cf hO g #[] q.b 0 c l.toArray w eg (cmp_lays hE hc q.b 0 l.toArray.size w (fun b o n hgb => ⟨hw.imm _ _ _ (hw.gl b o n hgb), fun e => by
      have h9 := c9 o (by rw [← e, hw.gl b o n hgb]; simp)
      simp at h9⟩)) hH hlt (by simpa using hl62)
    simp only [Nat.zero_mul]
    refine hcall2.mono ?_
    rintro e w' ⟨rfl, n, os, rfl⟩
    have hd' : (pdq (Go.Proofs.ltOf cf) l.toArray 0 l.toArray.size (Lib.bitLen l.toArray.size) true true) = (sortBy cf l).toArray := by simp [sortBy]
    rw [hd']
    have hput := fun r hr => heap_putK encV k w n q.b 0 (sortBy cf l).toArray os (r := r) hr
    have hcs' : ∀ j, (putCells id 0 (flatK encV k (sortBy cf l).toArray) cs)[j]? = if j < l.length * k then some ((encV ((sortBy cf l).getD (j / k) default))[j % k]!) else cs[j]? := by
      intro j
      simp only [putCells, Array.getElem?_mapIdx, Nat.zero_add, Nat.zero_le, true_and, size_flatK, List.size_toArray, hsl, Nat.sub_zero]
      split
      · rename_i hj
        rw [hcell j hj]
        simp only [Option.map_some, Option.some.injEq, id]
        rw [get_flatK _ _ _ _ (by simpa [hsl] using hj)]
        simp [List.getD_eq_getElem?_getD, getElem!_def]
        cases (sortBy cf l)[j / k]? <;> rfl
      · cases cs[j]? <;> rfl
    have hsw := seg_world (len := l.length) (i := 0) (h := fun j => encA ((sortBy cf l).getD j default)) (cs' := putCells id 0 (flatK encV k (sortBy cf l).toArray) cs) (w' := sortWorldK encV k w q.b 0 n (sortBy cf l).toArray os) hT hw hm hq (by simp) (Nat.zero_le _) c5 (by simp [putCells])
      (by rw [hput _ hlt, if_pos rfl, c5]; rfl) (fun b hb hne => by rw [hput _ hb, if_neg (Ne.symm hne)]) (by simp [sortWorldK, putRowK, putRow, mapBlock, Sort.ahead, grow]) rfl rfl ⟨rfl, by simp [sortWorldK, putRowK, putRow, mapBlock, Sort.ahead, grow]⟩
      (fun j hj => ⟨encV ((sortBy cf l).getD j default), hE.rep _ _ _, hE.fits _, by rw [hE.len]; exact hE.size.symm, fun o ho => by
        have ho' : o < k := by rw [← hE.size]; exact ho
        have hs' : (T E).size = k := hE.size
        show (putCells id 0 (flatK encV k (sortBy cf l).toArray) cs)[(0 + j) * (T E).size + o]? = _
        rw [hs', Nat.zero_add]
        have hlt2 : j * k + o < l.length * k := by
          have := Nat.mul_le_mul_right k (show j + 1 ≤ l.length from hj)
          rw [Nat.add_mul, Nat.one_mul] at this
          omega
        rw [hcs', if_pos hlt2]
        have e1 : (j * k + o) / k = j := by rw [Nat.mul_comm, Nat.mul_add_div hk0, Nat.div_eq_of_lt ho', Nat.add_zero]
        have e2 : (j * k + o) % k = o := by rw [Nat.mul_comm, Nat.mul_add_mod, Nat.mod_eq_of_lt ho']
        rw [e1, e2]
        have hlt3 : o < (encV ((sortBy cf l).getD j default)).length := by rw [hE.len]; exact ho'
        rw [List.getElem?_eq_getElem hlt3, getElem!_pos (encV ((sortBy cf l).getD j default)) o hlt3]⟩)
      (fun j hj => by
        have hs' : (T E).size = k := hE.size
        change j < 0 * (T E).size ∨ (0 + l.length) * (T E).size ≤ j at hj
        rw [hs', Nat.zero_mul, Nat.zero_add] at hj
        rw [hcs', if_neg (by omega)])
    refine ⟨_, I, ρ, rfl, hsw.1, .tup _ rfl (fun i c hi => by simp at hi), ?_⟩
    rw [hset]
    have e2 : (Ob.cells { ty := E, n := l.length, get := fun j => bif Nat.ble 0 j && Nat.blt j (0 + l.length) then encA ((sortBy cf l).getD (j - 0) default) else encA (l.getD j default), fz := 0 } : Ob) = cellsL E encA default (sortBy cf l) := by
      simp only [cellsL, Ob.cells.injEq, Blk.mk.injEq, hsl, true_and, and_true]
      funext j
      by_cases hj : j < l.length
      · have e : (Nat.ble 0 j && Nat.blt j (0 + l.length)) = true := by rw [Bool.and_eq_true]; exact ⟨by simp, by rw [Nat.blt_eq]; omega⟩
        rw [e]
        rfl
      · have e : (Nat.ble 0 j && Nat.blt j (0 + l.length)) = false := by
          cases hb : (Nat.ble 0 j && Nat.blt j (0 + l.length)) with
          | false => rfl
          | true => rw [Bool.and_eq_true, Nat.blt_eq] at hb; omega
        rw [e]
        simp [List.getD_eq_getElem?_getD, hsl, show l.length ≤ j by omega]
    refine Eq.mp ?_ hsw.2
    exact congrArg (fun o => WRep T N I ρ (setM (ofB [cellsL E encA default l]) (.b 0) o) _) e2
end
end Go.Ab
