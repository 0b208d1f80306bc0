/- Machine words: what the operations on uint8, uint32, uint64 come to, in Lean's own words. -/
import Derived.Test.YthdpebagkfloaaaDoorSlE
namespace Go.Proofs.YthdpebagkfloaaaDoor
open Go Go.RowKit
set_option linter.unusedVariables false
namespace SL
abbrev w32v (w : UInt32) : Value := .int .u32 (w.toNat : Int)
abbrev w64v (w : UInt64) : Value := .int .u64 (w.toNat : Int)

theorem bv32 (a : UInt32) : BitVec.ofInt 32 (a.toNat : Int) = a.toBitVec := by simp
theorem bv64 (a : UInt64) : BitVec.ofInt 64 (a.toNat : Int) = a.toBitVec := by simp
theorem bv8 (a : UInt8) : BitVec.ofInt 8 (a.toNat : Int) = a.toBitVec := by simp
theorem and32 (a b : UInt32) : Op.intBits .and .u32 (a.toNat : Int) (b.toNat : Int) = pure (.int .u32 ((a &&& b).toNat : Int)) := by
  have : (Op.intBits .and .u32 (a.toNat : Int) (b.toNat : Int)) = pure (.int .u32 (IntKind.u32.wrap ((BitVec.ofInt 32 (a.toNat : Int)) &&& (BitVec.ofInt 32 (b.toNat : Int))).toNat)) := rfl
  rw [this, bv32, bv32, wu32 (by omega) (by have := (a.toBitVec &&& b.toBitVec).isLt; omega)]; rfl
theorem or32 (a b : UInt32) : Op.intBits .or .u32 (a.toNat : Int) (b.toNat : Int) = pure (.int .u32 ((a ||| b).toNat : Int)) := by
  have : (Op.intBits .or .u32 (a.toNat : Int) (b.toNat : Int)) = pure (.int .u32 (IntKind.u32.wrap ((BitVec.ofInt 32 (a.toNat : Int)) ||| (BitVec.ofInt 32 (b.toNat : Int))).toNat)) := rfl
  rw [this, bv32, bv32, wu32 (by omega) (by have := (a.toBitVec ||| b.toBitVec).isLt; omega)]; rfl
theorem xor32 (a b : UInt32) : Op.intBits .xor .u32 (a.toNat : Int) (b.toNat : Int) = pure (.int .u32 ((a ^^^ b).toNat : Int)) := by
  have : (Op.intBits .xor .u32 (a.toNat : Int) (b.toNat : Int)) = pure (.int .u32 (IntKind.u32.wrap ((BitVec.ofInt 32 (a.toNat : Int)) ^^^ (BitVec.ofInt 32 (b.toNat : Int))).toNat)) := rfl
  rw [this, bv32, bv32, wu32 (by omega) (by have := (a.toBitVec ^^^ b.toBitVec).isLt; omega)]; rfl
theorem not32 (a : UInt32) : Op.unary .xor (.int .u32 (a.toNat : Int)) = pure (.int .u32 ((~~~a).toNat : Int)) := by
  have hm : (if IntKind.signed .u32 then (-1 : Int) else IntKind.max .u32) = 4294967295 := by decide
  have : (Op.unary .xor (.int .u32 (a.toNat : Int))) = pure (.int .u32 (IntKind.u32.wrap ((BitVec.ofInt 32 (if IntKind.signed .u32 then (-1 : Int) else IntKind.max .u32)) ^^^ (BitVec.ofInt 32 (a.toNat : Int))).toNat)) := rfl
  rw [this, hm, bv32, wu32 (by omega) (by have := ((BitVec.ofInt 32 4294967295) ^^^ a.toBitVec).isLt; omega)]
  have e : (BitVec.ofInt 32 4294967295 ^^^ a.toBitVec) = ~~~a.toBitVec := by
    show BitVec.allOnes 32 ^^^ a.toBitVec = _
    rw [BitVec.allOnes_xor]
  rw [e]; rfl
theorem add32 (a b : UInt32) : IntKind.u32.wrap ((a.toNat : Int) + b.toNat) = ((a + b).toNat : Int) := by
  rw [IntKind.wrap_u32, UInt32.toNat_add]; omega
theorem sub32 (a b : UInt32) : IntKind.u32.wrap ((a.toNat : Int) - b.toNat) = ((a - b).toNat : Int) := by
  have h1 := a.toNat_lt; have h2 := b.toNat_lt
  rw [IntKind.wrap_u32, UInt32.toNat_sub]; omega
theorem fdiv_nat (n k : Nat) : (n : Int).fdiv (2 ^ k) = ((n / 2 ^ k : Nat) : Int) := by
  rw [Int.fdiv_eq_ediv_of_nonneg _ (by exact_mod_cast Nat.zero_le _)]; norm_cast
theorem shr32 (a : UInt32) (k : IntKind) (n : Nat) (hn : n < 32) : Op.shift .shr .u32 (a.toNat : Int) k (n : Int) = pure (.int .u32 ((a >>> UInt32.ofNat n).toNat : Int)) := by
  have h0 : ¬ ((n : Int) < 0) := by omega
  have h1 : min n 32 = n := by omega
  have h2 : (UInt32.ofNat n).toNat % 32 = n := by simp; omega
  simp only [Op.shift, h0, if_false, Int.toNat_natCast, IntKind.bits, h1, fdiv_nat, UInt32.toNat_shiftRight, h2, Nat.shiftRight_eq_div_pow]
theorem shl32 (a : UInt32) (k : IntKind) (n : Nat) (hn : n < 32) : Op.shift .shl .u32 (a.toNat : Int) k (n : Int) = pure (.int .u32 ((a <<< UInt32.ofNat n).toNat : Int)) := by
  have h0 : ¬ ((n : Int) < 0) := by omega
  have h1 : min n 32 = n := by omega
  have h2 : (UInt32.ofNat n).toNat % 32 = n := by simp; omega
  simp only [Op.shift, h0, if_false, Int.toNat_natCast, IntKind.bits, h1, UInt32.toNat_shiftLeft, h2, Nat.shiftLeft_eq, IntKind.wrap_u32]
  congr 2
theorem conv32 (n : Nat) : IntKind.u32.wrap (n : Int) = ((UInt32.ofNat n).toNat : Int) := by
  rw [IntKind.wrap_u32]; simp
theorem conv8 (n : Nat) : IntKind.u8.wrap (n : Int) = ((UInt8.ofNat n).toNat : Int) := by
  rw [IntKind.wrap_u8]; simp
theorem conv64 (n : Nat) : IntKind.u64.wrap (n : Int) = ((UInt64.ofNat n).toNat : Int) := by
  rw [show IntKind.u64.wrap (n : Int) = (n : Int) % 18446744073709551616 by simp [IntKind.wrap, IntKind.bits, IntKind.signed]]; simp
theorem shrN (n k : Nat) (K : IntKind) (hk : k ≤ 64) : Op.shift .shr .u64 (n : Int) K (k : Int) = pure (.int .u64 ((n / 2 ^ k : Nat) : Int)) := by
  have h0 : ¬ ((k : Int) < 0) := by omega
  have h1 : min k 64 = k := by omega
  simp only [Op.shift, h0, if_false, Int.toNat_natCast, IntKind.bits, h1, fdiv_nat]
theorem neg_and31 (n : Nat) (h1 : 1 ≤ n) (h2 : n ≤ 31) : Op.intBits .and .u64 (18446744073709551616 - (n : Int)) 31 = pure (.int .u64 ((32 - n : Nat) : Int)) := by
  have key : ∀ m : Fin 31, (BitVec.ofInt 64 (18446744073709551616 - ((m.val + 1 : Nat) : Int)) &&& BitVec.ofInt 64 31).toNat = 31 - m.val := by decide
  have k := key ⟨n - 1, by omega⟩
  simp only [show n - 1 + 1 = n by omega] at k
  have : (Op.intBits .and .u64 (18446744073709551616 - (n : Int)) 31) = pure (.int .u64 (IntKind.u64.wrap ((BitVec.ofInt 64 (18446744073709551616 - (n : Int))) &&& (BitVec.ofInt 64 31)).toNat)) := rfl
  rw [this, k, wu64 (by omega) (by omega)]
  congr 3; omega
def rotr (x : UInt32) (n : Nat) : UInt32 := (x <<< UInt32.ofNat (32 - n)) ||| (x >>> UInt32.ofNat n)
end SL
end Go.Proofs.YthdpebagkfloaaaDoor
