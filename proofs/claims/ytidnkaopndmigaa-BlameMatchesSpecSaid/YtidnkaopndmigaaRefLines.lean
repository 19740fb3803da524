/- The reference's check of lines is the program's. -/
import Derived.Test.YtidnkaopndmigaaLines
import Derived.Test.YtidnkaopndmigaaPx7
import Derived.Test.YtidnkaopndmigaaPx7
namespace Go.Proofs.Ytidnkaopndmigaa.PL
open Go.RowKit Go.Proofs.YtidnkaopndmigaaW.PrintWords Go.Proofs.YtidnkaopndmigaaW.PrintMore Go.Proofs.Ytidnkaopndmigaa.P

theorem indexByte_mem (l : List UInt8) (c : UInt8) : 0 ≤ Go.Lib.indexByte l c ↔ c ∈ l := by
  induction l with
  | nil => simp [Go.Lib.indexByte]
  | cons b l ih =>
    have hg := Go.Lib.indexByte_ge l c
    unfold Go.Lib.indexByte
    by_cases h : b = c
    · simp [h]
    · have h2 : (b == c) = false := by simp [h]
      rw [h2]
      simp only [Bool.false_eq_true, if_false, List.mem_cons]
      by_cases h3 : Go.Lib.indexByte l c = -1
      · rw [h3]
        simp only [beq_self_eq_true, if_true]
        rw [h3] at ih
        constructor
        · intro h4
          omega
        · rintro (h4 | h4)
          · exact absurd h4.symm h
          · have := ih.2 h4
            omega
      · have h4 : (Go.Lib.indexByte l c == -1) = false := by simp [h3]
        rw [h4]
        simp only [Bool.false_eq_true, if_false]
        constructor
        · intro h5
          exact Or.inr (ih.1 (by omega))
        · intro h5
          omega
/-- A byte 10 at place i or later. -/
def nlFrom (s : ByteArray) (i : Nat) : Prop := (10 : UInt8) ∈ s.data.toList.drop i
theorem nl_iff (s : ByteArray) : nl s = true ↔ nlFrom s 0 := by
  unfold nl nlFrom
  rw [decide_eq_true_iff, indexByte_mem, List.drop_zero]
theorem bt_nat (s : ByteArray) {i : Nat} (h : i < s.size) : bt s (i : Int) = (s.data.toList[i]'(by simpa using h)).toNat := by
  unfold bt
  rw [dif_pos (by simpa using h)]
  rfl
theorem LinesFault_l1 (l : List ByteArray) (q : Nat) (hq : q < l.length) (r : Int × Int) (hsz : l[q].size ≤ 80) (h0 : nl l[q] = false → Ev (fun k => changeforgeref1_LinesFault.l0 k l (wrap64 ((q : Int) + 1))) r) (h1 : nl l[q] = true → r = (5, (q : Int))) :
    ∀ i, i ≤ l[q].size → (nlFrom l[q] 0 ↔ nlFrom l[q] i) → Ev (fun k => changeforgeref1_LinesFault.l1 k l (q : Int) (i : Int)) r := by
  intro i hi
  obtain ⟨d, hd⟩ : ∃ d, l[q].size = i + d := ⟨l[q].size - i, by omega⟩
  induction d generalizing i with
  | zero =>
    intro hn
    have hno : nl l[q] = false := by
      rw [Bool.eq_false_iff]
      intro h
      have := hn.1 ((nl_iff _).1 h)
      unfold nlFrom at this
      rw [List.drop_eq_nil_of_le (by simp; omega)] at this
      simp at this
    obtain ⟨K, hK⟩ := h0 hno
    refine ⟨K + 1, fun k hk => ?_⟩
    obtain ⟨m, rfl⟩ : ∃ m, k = m + 1 := ⟨k - 1, by omega⟩
    simp only [changeforgeref1_LinesFault.l1]
    rw [if_pos (by omega), if_pos (by omega), rdOf_nat hq, if_neg (by omega)]
    exact hK m (by omega)
  | succ d ih =>
    intro hn
    have hl : i < l[q].size := by omega
    have hl2 : i < l[q].data.toList.length := by simpa using hl
    have e := List.drop_eq_getElem_cons hl2
    by_cases hb : l[q].data.toList[i] = 10
    · have hyes : nl l[q] = true := by
        refine (nl_iff _).2 (hn.2 ?_)
        unfold nlFrom
        rw [e, hb]
        simp
      refine ⟨1, fun k hk => ?_⟩
      obtain ⟨m, rfl⟩ : ∃ m, k = m + 1 := ⟨k - 1, by omega⟩
      simp only [changeforgeref1_LinesFault.l1, changeforgeref1_At.f]
      rw [if_pos (by omega), if_pos (by omega), rdOf_nat hq, if_pos (by omega), if_pos (by omega), bt_nat _ hl, hb, if_pos (by decide), h1 hyes]
      rfl
    · obtain ⟨K, hK⟩ := ih (i + 1) (by omega) (by omega) (hn.trans (by
        unfold nlFrom
        rw [e]
        simp only [List.mem_cons]
        constructor
        · rintro (h | h)
          · exact absurd h.symm hb
          · exact h
        · exact Or.inr))
      refine ⟨K + 1, fun k hk => ?_⟩
      obtain ⟨m, rfl⟩ : ∃ m, k = m + 1 := ⟨k - 1, by omega⟩
      simp only [changeforgeref1_LinesFault.l1]
      have hb2 : ¬ ((l[q].data.toList[i].toNat : Int) = 10) := by
        intro h
        exact hb (UInt8.toNat_inj.1 (by
          have : l[q].data.toList[i].toNat = 10 := by omega
          rw [this]
          rfl))
      rw [if_pos (by omega), if_pos (by omega), rdOf_nat hq, if_pos (by omega), if_pos (by omega), bt_nat _ hl, if_neg hb2, wrap64_succ (by omega)]
      exact hK m (by omega)
theorem LinesFault_l0 (l : List ByteArray) (hl : l.length ≤ 120) : ∀ i, i ≤ l.length → Ev (fun k => changeforgeref1_LinesFault.l0 k l (i : Int)) (vfrom (l.drop i) (i : Int)) := by
  intro i hi
  obtain ⟨d, hd⟩ : ∃ d, l.length = i + d := ⟨l.length - i, by omega⟩
  induction d generalizing i with
  | zero =>
    obtain rfl : i = l.length := by omega
    refine ⟨1, fun k hk => ?_⟩
    obtain ⟨m, rfl⟩ : ∃ m, k = m + 1 := ⟨k - 1, by omega⟩
    simp only [changeforgeref1_LinesFault.l0]
    rw [if_neg (by omega), List.drop_length]
    rfl
  | succ d ih =>
    have hil : i < l.length := by omega
    have e := List.drop_eq_getElem_cons hil
    rw [e]
    by_cases h1 : l[i].size > 80
    · refine ⟨1, fun k hk => ?_⟩
      obtain ⟨m, rfl⟩ : ∃ m, k = m + 1 := ⟨k - 1, by omega⟩
      simp only [changeforgeref1_LinesFault.l0, changeforgeref1_At.f, vfrom]
      rw [if_pos (by omega), if_pos (by omega), rdOf_nat hil, if_pos (by omega), if_pos h1]
      rfl
    · have hr := ih (i + 1) (by omega) (by omega)
      obtain ⟨K, hK⟩ := LinesFault_l1 l i hil (vfrom (l[i] :: l.drop (i + 1)) (i : Int)) (by omega) (fun hn => by
        rw [wrap64_succ (by omega)]
        simp only [vfrom]
        rw [if_neg h1, if_neg (by rw [hn]; simp)]
        exact hr) (fun hn => by
        simp only [vfrom]
        rw [if_neg h1, if_pos hn]) 0 (by omega) Iff.rfl
      refine ⟨K + 1, fun k hk => ?_⟩
      obtain ⟨m, rfl⟩ : ∃ m, k = m + 1 := ⟨k - 1, by omega⟩
      have h2 := hK m (by omega)
      simp only [changeforgeref1_LinesFault.l0]
      rw [if_pos (by omega), if_pos (by omega), rdOf_nat hil, if_neg (by omega)]
      exact h2
theorem LinesFault_ev (l : List ByteArray) : Ev (fun k => changeforgeref1_LinesFault.f k l) (vF l) := by
  unfold changeforgeref1_LinesFault.f vF
  by_cases h : l.length > 120
  · rw [if_pos h]
    refine ⟨0, fun k _ => ?_⟩
    dsimp only
    rw [if_pos (by omega)]
    rfl
  · rw [if_neg h]
    obtain ⟨K, hK⟩ := LinesFault_l0 l (by omega) 0 (by omega)
    refine ⟨K, fun k hk => ?_⟩
    dsimp only
    rw [if_neg (by omega)]
    have := hK k hk
    simpa using this
theorem LinesCode_ev (l : List ByteArray) : Ev (fun k => changeforgeref1_LinesCode.f k l) (vF l).1 := by
  obtain ⟨K, hK⟩ := LinesFault_ev l
  refine ⟨K, fun k hk => ?_⟩
  have h := hK k hk
  dsimp only at h ⊢
  unfold changeforgeref1_LinesCode.f
  rw [h]
  rfl
end Go.Proofs.Ytidnkaopndmigaa.PL
