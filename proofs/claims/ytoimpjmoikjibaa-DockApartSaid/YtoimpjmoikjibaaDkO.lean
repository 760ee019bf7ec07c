/- A dock with one file, in plain lists. -/
import Derived.Test.YtoimpjmoikjibaaDkA
namespace Go.Proofs.Ytoimpjmoikjibaa.Dk
open Go Go.Proofs.Ytoimpjmoikjibaa.IMap
set_option linter.unusedVariables false
set_option linter.unusedSimpArgs false
def one (k : Int) (b : List Int) (sf : Nat) (c : Int) : DS := ⟨[(k, (b, sf))], c, -1, false⟩
theorem get_one (k : Int) (x : List Int × Nat) : get [(k, x)] k = some x := by rw [get_cons, if_pos rfl]
theorem ins_one (k : Int) (x y : List Int × Nat) : ins [(k, x)] k y = [(k, y)] := by
  rw [ins, if_neg (by omega), if_pos rfl]
theorem step_one (M : Fls) (c : Int) : stepS ⟨M, c, -1, false⟩ = ⟨M, c, -1, false⟩ := rfl
theorem findE_one (k : Int) (b : List Int) (sf : Nat) (c : Int) : findE (one k b sf c) k = 0 := by
  unfold findE one
  rw [if_neg (by simp), get_one]
  rfl
theorem size_one (k : Int) (b : List Int) (sf : Nat) (c : Int) : size (one k b sf c).M = b.length := by
  simp [size, one]
theorem app_new (k : Int) (b : List Int) (c : Int) (h0 : 0 ≤ k) (h1 : k ≤ 999999) (hb : (b.length : Int) ≤ c) : app (new c) k b = (0, one k b 0 c) := by
  have e : size (new c).M = 0 := rfl
  unfold app
  rw [if_neg (by simp [new]), if_neg (by omega), if_neg (by rw [e]; show ¬ c < _; omega)]
  rfl
theorem app_one (k : Int) (b m : List Int) (sf : Nat) (c : Int) (h0 : 0 ≤ k) (h1 : k ≤ 999999) (hb : (b.length : Int) + m.length ≤ c) : app (one k b sf c) k m = (0, one k (b ++ m) sf c) := by
  unfold app
  rw [if_neg (by simp [one]), if_neg (by omega), if_neg (by rw [size_one]; show ¬ c < _; omega)]
  show ((if (stepS ⟨ins [(k, (b, sf))] k _, c, -1, false⟩).down = true then 51 else 0), stepS ⟨ins [(k, (b, sf))] k _, c, -1, false⟩) = _
  rw [step_one, ins_one]
  show (0, _) = _
  simp only [one, get_one, Option.getD_some]
theorem syn_one (k : Int) (b : List Int) (sf : Nat) (c : Int) : syn (one k b sf c) k = (0, one k b b.length c) := by
  unfold syn
  rw [findE_one, if_neg (by decide)]
  have e : stepS (one k b sf c) = one k b sf c := rfl
  rw [e, if_neg (by simp [one])]
  simp only [one, get_one, Option.getD_some, ins_one]
theorem cut_one (k : Int) (b : List Int) (sf : Nat) (c n : Int) (h0 : 0 ≤ n) (h1 : n ≤ b.length) : cut (one k b sf c) k n = (0, one k (b.take n.toNat) (min sf n.toNat) c) := by
  unfold cut
  rw [findE_one, if_neg (by decide)]
  have e : stepS (one k b sf c) = one k b sf c := rfl
  rw [if_neg (by simp only [one, get_one, Option.getD_some]; omega), e, if_neg (by simp [one])]
  simp only [one, get_one, Option.getD_some, ins_one]
theorem cut_one_bad (k : Int) (b : List Int) (sf : Nat) (c n : Int) (h : n < 0 ∨ (b.length : Int) < n) : cut (one k b sf c) k n = (11, one k b sf c) := by
  unfold cut
  rw [findE_one, if_neg (by decide), if_pos (by simp only [one, get_one, Option.getD_some]; exact h)]
theorem rmv_one (k : Int) (b : List Int) (sf : Nat) (c : Int) : rmv (one k b sf c) k = (0, ⟨[], c, -1, false⟩) := by
  unfold rmv
  rw [findE_one, if_neg (by decide)]
  have e : stepS (one k b sf c) = one k b sf c := rfl
  rw [e, if_neg (by simp [one])]
  simp [one, rem]
theorem bytes_one (k : Int) (b : List Int) (sf : Nat) (c : Int) : bytesOf (one k b sf c) k = b := by
  unfold bytesOf
  rw [findE_one, if_pos rfl]
  simp [one, get_one]
theorem safe_one (k : Int) (b : List Int) (sf : Nat) (c : Int) (h : 0 ≤ k) : safeOf (one k b sf c) k = sf := by
  unfold safeOf one
  simp [get_one]
theorem crash_one (k : Int) (b : List Int) (sf : Nat) (c : Int) (n : Int) (h : sf ≤ b.length) : crash (one k b sf c) [n] = one k (b.take (sf + min n.toNat (b.length - sf))) (min b.length (sf + min n.toNat (b.length - sf))) c := by
  unfold crash one
  simp only [crashF, kept]
  split
  · simp [List.headD, Nat.min_comm]
  · have e : sf = b.length := by omega
    subst e
    simp
theorem strOfNums_app (a b : List Int) : strOfNums (a ++ b) = strOfNums a ++ strOfNums b := by
  apply ByteArray.ext
  simp [strOfNums]
theorem infoU8 : (Try.prog.info? 5).map (fun i => (i.zero, i.size, i.bytes)) = some (some (.int .u8 0), 1, 1) := by kernel_rfl
theorem strOfNums_sz (xs : List Int) : (strOfNums xs).size = xs.length := by simp [strOfNums, ByteArray.size]
end Go.Proofs.Ytoimpjmoikjibaa.Dk
