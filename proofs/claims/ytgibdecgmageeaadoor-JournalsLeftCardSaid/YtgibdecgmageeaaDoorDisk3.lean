/- goes and finds walked. -/
import Derived.Test.YtgibdecgmageeaaDoorDisk2
import Derived.Test.YtgibdecgmageeaaDoorShelf
import Derived.Deep.QuietTactic
import Derived.BigQuiet
namespace Go.Proofs.YtgibdecgmageeaaDoor
open Go.RowKit

theorem goes_nil (ok : Bool) (s : ByteArray) (w : World) :
    Calls Tryd.prog 51 #[.pointer none, .bool ok, .string s] w (fun e w' => e = .returned (.int .i64 2) ∧ w = w') := by
  go_enter Tryd.func51, Tryd.ntmps51
  go_wp2
  go_ret
  exact ⟨rfl, rfl⟩

theorem goes_void (g : Nat) (z : Int) (ok : Bool) (s : ByteArray) (w : World) (hc : w.cell? ⟨g, 0, none⟩ = some (.int .i64 z)) (hz : z < 1) :
    Calls Tryd.prog 51 #[.pointer (some ⟨g, 0, none⟩), .bool ok, .string s] w (fun e w' => e = .returned (.int .i64 2) ∧ w = w') := by
  go_enter Tryd.func51, Tryd.ntmps51
  go_wp2
  go_ret
  exact ⟨rfl, rfl⟩

/-- The cutset, as the text has it. -/
theorem TrimLeft_any (s : ByteArray) (w : World) :
    Calls Tryd.prog 65 #[.string s, .string ⟨#[97, 98, 99, 100, 101, 102, 103, 104, 105, 106, 107, 108, 109, 110, 111, 112, 113, 114, 115, 116, 117, 118, 119, 120, 121, 122, 48, 49, 50, 51, 52, 53, 54, 55, 56, 57, 45, 46]⟩] w
      fun e w' => e = .returned (.string ⟨(Lib.trimLeftS s.data.toList mayL).toArray⟩) ∧ Below w.heap.size w w' :=
  Any.strings_TrimLeft_laid Tryd.lays161 (by kernel_rfl) s _ w (by decide) (ascii_of_all (by decide))

theorem dropWhile_nil {α : Type} {f : α → Bool} : ∀ {l : List α}, l.dropWhile f = [] ↔ l.all f = true
  | [] => by simp
  | a :: l => by
    rw [List.dropWhile_cons, List.all_cons]
    by_cases h : f a = true
    · rw [if_pos h, h, dropWhile_nil (l := l)]; simp
    · rw [if_neg h]
      have : f a = false := by simpa using h
      simp [this]
theorem trim_iff (s : ByteArray) : (⟨(Lib.trimLeftS s.data.toList mayL).toArray⟩ : ByteArray) = ⟨#[]⟩ ↔ s.data.toList.all (fun b => mayL.contains b) = true := by
  rw [← dropWhile_nil]
  unfold Lib.trimLeftS
  constructor
  · intro e
    have := congrArg (fun b : ByteArray => b.data.toList) e
    simpa using this
  · intro e; rw [e]
theorem toList_nil {s : ByteArray} : s.toList = [] ↔ s.size = 0 := by
  rw [ByteArray.toList_eq, List.eq_nil_iff_length_eq_zero]
  rfl
/-- What goes answers of a disk that is there. -/
def goI (ok : Bool) (s : ByteArray) : Int := if ok && nameB s then 0 else 1
theorem goI_empty {s : ByteArray} (h : s.toList = []) : goI true s = 1 := by
  rw [toList_nil] at h
  unfold goI nameB; simp [h]
theorem goI_long {s : ByteArray} (h : 16 < (s.size : Int)) : goI true s = 1 := by
  have h' : ¬ s.size ≤ 16 := by omega
  unfold goI nameB; simp [h']
theorem goI_in {s : ByteArray} (h0 : ¬ s.toList = []) (h1 : (s.size : Int) ≤ 16) (r : ByteArray) (hr : r = ⟨(Lib.trimLeftS s.data.toList mayL).toArray⟩) : goI true s = if r.toList = [] then 0 else 1 := by
  have e : r.toList = [] ↔ s.data.toList.all (fun b => mayL.contains b) = true := by
    rw [← trim_iff, ← hr]
    rw [ByteArray.toList_eq]
    constructor
    · intro h; exact ByteArray.ext (Array.toList_inj.1 (by simpa using h))
    · intro h; rw [h]
  rw [toList_nil] at h0
  have h2 : 0 < s.size ∧ s.size ≤ 16 := by omega
  unfold goI nameB
  by_cases h : s.data.toList.all (fun b => mayL.contains b) = true
  · rw [if_pos (e.2 h), h]; simp [h2]
  · rw [if_neg (fun k => h (e.1 k))]
    have h' : s.data.toList.all (fun b => mayL.contains b) = false := by simpa using h
    rw [h']; simp

set_option maxHeartbeats 1000000 in
theorem goes_any (g : Nat) (z : Int) (ok : Bool) (s : ByteArray) (w : World) (hc : w.cell? ⟨g, 0, none⟩ = some (.int .i64 z)) (hs : s.size ≤ 9223372036854775807) (hz : 1 ≤ z) :
    Calls Tryd.prog 51 #[.pointer (some ⟨g, 0, none⟩), .bool ok, .string s] w (fun e w' => e = .returned (.int .i64 (goI ok s)) ∧ Below w.heap.size w w') := by
  have hcon := TrimLeft_any s w
  have hgi := goI_in (s := s)
  generalize (⟨(Lib.trimLeftS s.data.toList mayL).toArray⟩ : ByteArray) = r at hcon hgi
  have HC := Lib.hid hcon; have HG := Lib.hid hgi; clear hcon hgi
  have HE := Lib.hid (goI_empty (s := s)); have HL := Lib.hid (goI_long (s := s))
  by_cases ho : ok = true
  · subst ho
    generalize goI true s = res at *
    go_enter Tryd.func51, Tryd.ntmps51
    go_wp2_with (first | (go_at_call 65; refine HC.out.mono ?_; rintro e w' ⟨rfl, hb⟩))
    all_goals go_ret
    · exact ⟨by rw [HE.out (by assumption)]; rfl, Below.refl _ _⟩
    · have h0 : ¬ s.toList = [] := by assumption
      have h1 : (s.size : Int) ≤ 16 := by assumption
      have hx : (s.toList.isEmpty = true ∨ 16 < (s.size : Int)) ∨ (!r.toList.isEmpty) = true := by assumption
      have h := HG.out h0 h1 r rfl
      rw [if_neg (by intro e; rw [e] at hx; simp [h0] at hx; omega)] at h
      exact ⟨by rw [h]; rfl, hb⟩
    · have hx : (s.toList.isEmpty = false ∧ (s.size : Int) ≤ 16) ∧ (!r.toList.isEmpty) = false := by assumption
      have h := HG.out (by assumption) (by assumption) r rfl
      rw [if_pos (by simpa using hx.2)] at h
      exact ⟨by rw [h]; rfl, hb⟩
    · exact ⟨by rw [HL.out (by assumption)]; rfl, Below.refl _ _⟩
  · obtain rfl : ok = false := by simpa using ho
    clear HC HG HE HL
    go_enter Tryd.func51, Tryd.ntmps51
    go_wp2_with fail
    go_ret
    exact ⟨by simp [goI], Below.refl _ _⟩
end Go.Proofs.YtgibdecgmageeaaDoor
