import Derived.Test.YthefbeekcjchcaaOutNum
import Derived.Test.YthefbeekcjchcaaForms
namespace Go.Proofs.Ythefbeekcjchcaa.P
open Go Go.RowKit Go.Proofs.YthefbeekcjchcaaW.PrintWords Go.Proofs.YthefbeekcjchcaaW.PrintLast Go.Proofs.YthefbeekcjchcaaW.PrintMore
set_option linter.unusedVariables false
set_option linter.unusedSimpArgs false
/-- What is written says these tokens. -/
def Says (ts : List Tok) (s : List Int × Bool) : Prop := s.2 = !okT ts ∧ (okT ts = true → s.1 = outT ts) ∧ s.1.length ≤ costT ts
theorem Says.nil : Says [] ([], false) := ⟨rfl, fun _ => rfl, Nat.le_refl _⟩
theorem Says.putn {ts : List Tok} {s : List Int × Bool} (h : Says ts s) (n : Int) : Says (ts ++ [.num n]) (putn n s) := by
  obtain ⟨h1, h2, h3⟩ := h
  unfold P.putn
  have e1 : okT (ts ++ [.num n]) = (okT ts && fits n) := by rw [okT_app]; simp [okT, Tok.ok]
  have e3 : costT (ts ++ [.num n]) = costT ts + 6 := by rw [costT_app]; simp [costT, Tok.cost]
  by_cases c : fits n = true
  · rw [if_pos c]
    refine ⟨by rw [e1, c, Bool.and_true]; exact h1, fun h => ?_, ?_⟩
    · rw [e1, c, Bool.and_true] at h
      rw [outT_app]
      simp only [outT, List.flatMap_cons, List.flatMap_nil, List.append_nil, Tok.out, if_pos c]
      rw [← outT, h2 h]
    · have := enc_fit c
      rw [e3, List.length_append]
      omega
  · rw [if_neg c]
    have c' : fits n = false := by simpa using c
    refine ⟨by rw [e1, c', Bool.and_false]; rfl, fun h => ?_, by rw [e3]; exact Nat.le_trans h3 (by omega)⟩
    rw [e1, c', Bool.and_false] at h
    cases h
theorem Says.bad {ts : List Tok} {s : List Int × Bool} (h : Says ts s) : Says (ts ++ [.bad]) (s.1, true) := by
  have e1 : okT (ts ++ [.bad]) = false := by rw [okT_app]; simp [okT, Tok.ok]
  refine ⟨by rw [e1]; rfl, (fun h => by rw [e1] at h; cases h), ?_⟩
  rw [costT_app]
  exact Nat.le_trans h.2.2 (Nat.le_add_right _ _)
theorem Says.raw {ts : List Tok} {s : List Int × Bool} (h : Says ts s) (l : List Int) : Says (ts ++ [.raw l]) (s.1 ++ l, s.2) := by
  have e1 : okT (ts ++ [.raw l]) = okT ts := by rw [okT_app]; simp [okT, Tok.ok]
  refine ⟨by rw [e1]; exact h.1, fun h' => ?_, ?_⟩
  · rw [e1] at h'
    show s.1 ++ l = _
    rw [outT_app, h.2.1 h']
    simp [outT, Tok.out]
  · show (s.1 ++ l).length ≤ _
    rw [costT_app, List.length_append]
    have := h.2.2
    simp only [costT, List.map_cons, List.map_nil, List.sum_cons, List.sum_nil, Tok.cost] at this ⊢
    omega
theorem Says.putf : ∀ (l : List Int) {ts : List Tok} {s : List Int × Bool}, Says ts s → Says (ts ++ l.flatMap tNum) (putf l s)
  | [], ts, s, h => by simpa [P.putf] using h
  | n :: l, ts, s, h => by
    rw [putf_cons]
    have := Says.putf l (h.putn n)
    simpa [tNum, List.append_assoc] using this
theorem Says.puts {ts : List Tok} {s : List Int × Bool} (h : Says ts s) (l : List Int) : Says (ts ++ listT tNum l) (puts l s) := by
  unfold P.puts
  have := Says.putf l (h.putn (l.length : Int))
  simpa [listT, List.append_assoc] using this
theorem Says.spoilt {ts : List Tok} {s : List Int × Bool} (h : Says ts s) {us : List Tok} (hu : okT us = false) : Says (ts ++ us) (s.1, true) := by
  have e1 : okT (ts ++ us) = false := by rw [okT_app, hu, Bool.and_false]
  exact ⟨by rw [e1]; rfl, (fun h => by rw [e1] at h; cases h), by rw [costT_app]; exact Nat.le_trans h.2.2 (Nat.le_add_right _ _)⟩
theorem Says.putl : ∀ (l : List Int) {ts : List Tok} {s : List Int × Bool}, Says ts s → Says (ts ++ l.map .num) (putl l s)
  | [], ts, s, h => by simpa [P.putl] using h
  | n :: l, ts, s, h => by
    rw [P.putl]
    by_cases c : fits n = true
    · rw [if_pos c]
      have h1 := h.putn n
      rw [P.putn, if_pos c] at h1
      have := Says.putl l h1
      simpa [List.append_assoc] using this
    · rw [if_neg c]
      refine h.spoilt ?_
      have c' : fits n = false := by simpa using c
      simp [okT, Tok.ok, c']
def OT (T : TypeId) (w0 w : World) (g : Nat) (ts : List Tok) : Prop := ∃ bs bad, OW T w0 w g bs bad ∧ Says ts (bs, bad)
theorem OT.below {T : TypeId} {w0 w w1 : World} {g : Nat} {ts : List Tok} (h : OT T w0 w g ts) (hb : Below w.heap.size w w1) : OT T w0 w1 g ts := by
  obtain ⟨bs, bad, h1, h2⟩ := h
  exact ⟨bs, bad, h1.below hb, h2⟩
theorem OT.spoil {T : TypeId} {w0 w : World} {g : Nat} {ts : List Tok} (h : OT T w0 w g ts) : OT T w0 (w.setCell ⟨g, 1, none⟩ (.bool true)) g (ts ++ [.bad]) := by
  obtain ⟨bs, bad, h1, h2⟩ := h
  exact ⟨bs, true, h1.spoil, h2.bad⟩
theorem OT.lt {T : TypeId} {w0 w : World} {g : Nat} {ts : List Tok} (h : OT T w0 w g ts) : g < w.heap.size := by
  obtain ⟨bs, bad, ⟨v, h1, _⟩, _⟩ := h
  exact blk_lt h1
theorem OT.base {T : TypeId} {w0 w : World} {g : Nat} {ts : List Tok} (h : OT T w0 w g ts) : w0.heap.size ≤ g := by
  obtain ⟨bs, bad, ⟨v, _, h1, _⟩, _⟩ := h
  exact h1
theorem OT.new (T : TypeId) (w : World) : OT T w (w.alloc (.cells #[.slice none 0 0, .bool false] T)) w.heap.size [] := ⟨[], false, ⟨_, by show (w.heap.push _)[w.heap.size]? = _; simp, Nat.le_refl _, Kd.R_nil _ _ _ _ _⟩, Says.nil⟩
/-- What a function that writes comes to. -/
def Wrote (T : TypeId) (w0 w : World) (g : Nat) (ts : List Tok) (e : Ending) (w' : World) : Prop := e = .returned (.tuple #[]) ∧ OT T w0 w' g ts ∧ Below w0.heap.size w0 w' ∧ Keeps w w' g
theorem W_num_T (g : Nat) (ts : List Tok) (n : Int) (w0 w : World) (hO : OT 27 w0 w g ts) (hB : Below w0.heap.size w0 w) (hc : costT ts + 6 ≤ 1000000000) :
    Calls Try.prog 35 #[.pointer (some ⟨g, 0, none⟩), .int .i64 n] w (Wrote 27 w0 w g (ts ++ [.num n])) := by
  obtain ⟨bs, bad, h1, h2⟩ := hO
  exact (W_num_calls g bs bad n w0 w h1 hB (by have := h2.2.2; dsimp only at this; omega)).mono fun e w' ⟨he, ho, hb, hk⟩ => ⟨he, ⟨_, _, ho, h2.putn n⟩, hb, hk⟩
theorem W_Ints_T (g : Nat) (ts : List Tok) (A : Option Addr) (c : Nat) (l : List Int) (w0 w : World) (hO : OT 27 w0 w g ts) (hB : Below w0.heap.size w0 w) (hr : Kd.C (Kd.int .i64) w0 A l.length l) (hc : costT ts + costT (listT tNum l) ≤ 1000000000) :
    Calls Try.prog 12 #[.pointer (some ⟨g, 0, none⟩), .slice A l.length c] w (Wrote 27 w0 w g (ts ++ listT tNum l)) := by
  obtain ⟨bs, bad, h1, h2⟩ := hO
  have e : costT (listT tNum l) = 6 + 6 * l.length := by
    unfold listT
    rw [costT_num]
    congr 1
    clear hc hr
    induction l with
    | nil => rfl
    | cons n l ih => rw [List.flatMap_cons, costT_app, ih]; simp [tNum, costT, Tok.cost]; omega
  exact (W_Ints_calls g bs bad A c l w0 w h1 hB hr (by have := h2.2.2; dsimp only at this; omega)).mono fun e w' ⟨he, ho, hb, hk⟩ => ⟨he, ⟨_, _, ho, h2.puts l⟩, hb, hk⟩
theorem costT_nums (l : List Int) : costT (listT tNum l) = 6 + 6 * l.length := by
  unfold listT
  rw [costT_num]
  congr 1
  induction l with
  | nil => rfl
  | cons n l ih => rw [List.flatMap_cons, costT_app, ih]; simp [tNum, costT, Tok.cost]; omega
theorem costT_map (l : List Int) : costT (l.map Tok.num) = 6 * l.length := by
  induction l with
  | nil => rfl
  | cons n l ih => rw [List.map_cons, costT_num, ih, List.length_cons]; omega
theorem out_num_T (g : Nat) (ts : List Tok) (bl : Nat) (v0 : Value) (l : List Int) (w0 w : World) (hO : OT 94 w0 w g ts) (hB : Below w0.heap.size w0 w) (hr : Kd.R (Kd.int .i64) 3 w bl (fun _ => True) v0 l) (hc : costT ts + 6 * l.length ≤ 1000000000) :
    Calls Try.prog 45 #[.pointer (some ⟨g, 0, none⟩), v0] w (Wrote 94 w0 w g (ts ++ l.map .num)) := by
  obtain ⟨bs, bad, h1, h2⟩ := hO
  exact (out_num_calls g bs bad bl v0 l w0 w h1 hB hr (by have := h2.2.2; dsimp only at this; omega)).mono fun e w' ⟨he, ho, hb, hk⟩ => ⟨he, ⟨_, _, ho, h2.putl l⟩, hb, hk⟩
theorem ints_T (g : Nat) (ts : List Tok) (A : Option Addr) (c : Nat) (l : List Int) (w0 w : World) (hO : OT 94 w0 w g ts) (hB : Below w0.heap.size w0 w) (hr : Kd.C (Kd.int .i64) w0 A l.length l) (hc : costT ts + costT (listT tNum l) ≤ 1000000000) :
    Calls Try.prog 36 #[.pointer (some ⟨g, 0, none⟩), .slice A l.length c] w (Wrote 94 w0 w g (ts ++ listT tNum l)) := by
  obtain ⟨bs, bad, h1, h2⟩ := hO
  rw [costT_nums] at hc
  exact (ints_calls g bs bad A c l w0 w h1 hB hr (by have := h2.2.2; dsimp only at this; omega)).mono fun e w' ⟨he, ho, hb, hk⟩ => ⟨he, ⟨_, _, ho, h2.puts l⟩, hb, hk⟩
end Go.Proofs.Ythefbeekcjchcaa.P
