/- What a disk that is not there, or a void one, answers. (Printed by wip/gen_void.py.) -/
import Derived.Test.YtgibdecgmageeaaDoorDisk19
import Derived.Test.YtgibdecgmageeaaDoorDisk10
import Derived.Test.YtgibdecgmageeaaDoorDisk14
import Derived.Test.YtgibdecgmageeaaDoorDisk15
namespace Go.Proofs.YtgibdecgmageeaaDoor
open Go.RowKit

theorem finds_void (g : Nat) (z : Int) (ok : Bool) (s : ByteArray) (w : World) (hc : w.cell? ⟨g, 0, none⟩ = some (.int .i64 z)) (hz : z < 1) :
    Calls Tryd.prog 50 #[.pointer (some ⟨g, 0, none⟩), .bool ok, .string s] w (fun e w' => e = .returned (.tuple #[.pointer none, .int .i64 2]) ∧ w = w') := by
  have H := Lib.hid (goes_void g z ok s w hc hz)
  go_enter Tryd.func50, Tryd.ntmps50
  go_wp2_with fail
  (with_reducible refine H.out.mono ?_)
  rintro e w' ⟨rfl, rfl⟩
  go_wp2
  go_ret2
  exact ⟨rfl, rfl⟩
theorem Names_void (g : Nat) (z : Int) (w : World) (hc : w.cell? ⟨g, 0, none⟩ = some (.int .i64 z)) (hz : z < 1) :
    Calls Tryd.prog 28 #[.pointer (some ⟨g, 0, none⟩)] w (fun e w' => e = .returned (.int .i64 2) ∧ w = w') := by
  go_enter Tryd.func28, Tryd.ntmps28
  go_wp2
  go_ret
  exact ⟨rfl, rfl⟩
theorem Create_nil (s : ByteArray) (w : World) :
    Calls Tryd.prog 32 #[.pointer none, .string s] w (fun e w' => e = .returned (.int .i64 2) ∧ w = w') := by
  have H := Lib.hid (goes_nil true s w)
  go_enter Tryd.func32, Tryd.ntmps32
  go_wp2_with fail
  (with_reducible refine H.out.mono ?_)
  rintro e w' ⟨rfl, rfl⟩
  go_wp2
  go_ret
  exact ⟨rfl, rfl⟩
theorem Create_void (g : Nat) (z : Int) (s : ByteArray) (w : World) (hc : w.cell? ⟨g, 0, none⟩ = some (.int .i64 z)) (hz : z < 1) :
    Calls Tryd.prog 32 #[.pointer (some ⟨g, 0, none⟩), .string s] w (fun e w' => e = .returned (.int .i64 2) ∧ w = w') := by
  have H := Lib.hid (goes_void g z true s w hc hz)
  go_enter Tryd.func32, Tryd.ntmps32
  go_wp2_with fail
  (with_reducible refine H.out.mono ?_)
  rintro e w' ⟨rfl, rfl⟩
  go_wp2
  go_ret
  exact ⟨rfl, rfl⟩
theorem Remove_nil (s : ByteArray) (w : World) :
    Calls Tryd.prog 39 #[.pointer none, .string s] w (fun e w' => e = .returned (.int .i64 2) ∧ w = w') := by
  have H := Lib.hid (finds_nil true s w)
  go_enter Tryd.func39, Tryd.ntmps39
  go_wp2_with fail
  (with_reducible refine H.out.mono ?_)
  rintro e w' ⟨rfl, rfl⟩
  go_wp2
  go_ret
  exact ⟨rfl, rfl⟩
theorem Remove_void (g : Nat) (z : Int) (s : ByteArray) (w : World) (hc : w.cell? ⟨g, 0, none⟩ = some (.int .i64 z)) (hz : z < 1) :
    Calls Tryd.prog 39 #[.pointer (some ⟨g, 0, none⟩), .string s] w (fun e w' => e = .returned (.int .i64 2) ∧ w = w') := by
  have H := Lib.hid (finds_void g z true s w hc hz)
  go_enter Tryd.func39, Tryd.ntmps39
  go_wp2_with fail
  (with_reducible refine H.out.mono ?_)
  rintro e w' ⟨rfl, rfl⟩
  go_wp2
  go_ret
  exact ⟨rfl, rfl⟩
theorem Rename_nil (a b : ByteArray) (w : World) :
    Calls Tryd.prog 40 #[.pointer none, .string a, .string b] w (fun e w' => e = .returned (.int .i64 2) ∧ w = w') := by
  have H := Lib.hid (goes_nil true b w)
  go_enter Tryd.func40, Tryd.ntmps40
  go_wp2_with fail
  (with_reducible refine H.out.mono ?_)
  rintro e w' ⟨rfl, rfl⟩
  go_wp2
  go_ret
  exact ⟨rfl, rfl⟩
theorem Rename_void (g : Nat) (z : Int) (a b : ByteArray) (w : World) (hc : w.cell? ⟨g, 0, none⟩ = some (.int .i64 z)) (hz : z < 1) :
    Calls Tryd.prog 40 #[.pointer (some ⟨g, 0, none⟩), .string a, .string b] w (fun e w' => e = .returned (.int .i64 2) ∧ w = w') := by
  have H := Lib.hid (goes_void g z true b w hc hz)
  go_enter Tryd.func40, Tryd.ntmps40
  go_wp2_with fail
  (with_reducible refine H.out.mono ?_)
  rintro e w' ⟨rfl, rfl⟩
  go_wp2
  go_ret
  exact ⟨rfl, rfl⟩
theorem Append_nil (s : ByteArray) (A : Option Addr) (n cap : Nat) (w : World) :
    Calls Tryd.prog 33 #[.pointer none, .string s, .slice A n cap] w (fun e w' => e = .returned (.int .i64 2) ∧ w = w') := by
  have H := Lib.hid (finds_nil true s w)
  go_enter Tryd.func33, Tryd.ntmps33
  go_wp2_with fail
  (with_reducible refine H.out.mono ?_)
  rintro e w' ⟨rfl, rfl⟩
  go_wp2
  go_ret
  exact ⟨rfl, rfl⟩
theorem Append_void (g : Nat) (z : Int) (s : ByteArray) (A : Option Addr) (n cap : Nat) (w : World) (hc : w.cell? ⟨g, 0, none⟩ = some (.int .i64 z)) (hz : z < 1) :
    Calls Tryd.prog 33 #[.pointer (some ⟨g, 0, none⟩), .string s, .slice A n cap] w (fun e w' => e = .returned (.int .i64 2) ∧ w = w') := by
  have H := Lib.hid (finds_void g z true s w hc hz)
  go_enter Tryd.func33, Tryd.ntmps33
  go_wp2_with fail
  (with_reducible refine H.out.mono ?_)
  rintro e w' ⟨rfl, rfl⟩
  go_wp2
  go_ret
  exact ⟨rfl, rfl⟩
theorem Sync_nil (s : ByteArray) (w : World) :
    Calls Tryd.prog 27 #[.pointer none, .string s] w (fun e w' => e = .returned (.int .i64 2) ∧ w = w') := by
  have H := Lib.hid (finds_nil true s w)
  go_enter Tryd.func27, Tryd.ntmps27
  go_wp2_with fail
  (with_reducible refine H.out.mono ?_)
  rintro e w' ⟨rfl, rfl⟩
  go_wp2
  go_ret
  exact ⟨rfl, rfl⟩
theorem Sync_void (g : Nat) (z : Int) (s : ByteArray) (w : World) (hc : w.cell? ⟨g, 0, none⟩ = some (.int .i64 z)) (hz : z < 1) :
    Calls Tryd.prog 27 #[.pointer (some ⟨g, 0, none⟩), .string s] w (fun e w' => e = .returned (.int .i64 2) ∧ w = w') := by
  have H := Lib.hid (finds_void g z true s w hc hz)
  go_enter Tryd.func27, Tryd.ntmps27
  go_wp2_with fail
  (with_reducible refine H.out.mono ?_)
  rintro e w' ⟨rfl, rfl⟩
  go_wp2
  go_ret
  exact ⟨rfl, rfl⟩
theorem Size_nil (s : ByteArray) (w : World) :
    Calls Tryd.prog 37 #[.pointer none, .string s] w (fun e w' => e = .returned (.tuple #[.int .i64 0, .int .i64 2]) ∧ w = w') := by
  have H := Lib.hid (finds_nil true s w)
  go_enter Tryd.func37, Tryd.ntmps37
  go_wp2_with fail
  (with_reducible refine H.out.mono ?_)
  rintro e w' ⟨rfl, rfl⟩
  go_wp2
  go_ret2
  exact ⟨rfl, rfl⟩
theorem Size_void (g : Nat) (z : Int) (s : ByteArray) (w : World) (hc : w.cell? ⟨g, 0, none⟩ = some (.int .i64 z)) (hz : z < 1) :
    Calls Tryd.prog 37 #[.pointer (some ⟨g, 0, none⟩), .string s] w (fun e w' => e = .returned (.tuple #[.int .i64 0, .int .i64 2]) ∧ w = w') := by
  have H := Lib.hid (finds_void g z true s w hc hz)
  go_enter Tryd.func37, Tryd.ntmps37
  go_wp2_with fail
  (with_reducible refine H.out.mono ?_)
  rintro e w' ⟨rfl, rfl⟩
  go_wp2
  go_ret2
  exact ⟨rfl, rfl⟩
theorem Read_nil (s : ByteArray) (a n : Int) (w : World) :
    Calls Tryd.prog 36 #[.pointer none, .string s, .int .i64 a, .int .i64 n] w (fun e w' => e = .returned (.tuple #[.slice none 0 0, .int .i64 2]) ∧ w = w') := by
  have H := Lib.hid (finds_nil (decide (0 ≤ min a n)) s w)
  go_enter Tryd.func36, Tryd.ntmps36
  go_wp2_with fail
  (with_reducible refine H.out.mono ?_)
  rintro e w' ⟨rfl, rfl⟩
  go_wp2
  go_ret2
  exact ⟨rfl, rfl⟩
theorem Read_void (g : Nat) (z : Int) (s : ByteArray) (a n : Int) (w : World) (hc : w.cell? ⟨g, 0, none⟩ = some (.int .i64 z)) (hz : z < 1) :
    Calls Tryd.prog 36 #[.pointer (some ⟨g, 0, none⟩), .string s, .int .i64 a, .int .i64 n] w (fun e w' => e = .returned (.tuple #[.slice none 0 0, .int .i64 2]) ∧ w = w') := by
  have H := Lib.hid (finds_void g z (decide (0 ≤ min a n)) s w hc hz)
  go_enter Tryd.func36, Tryd.ntmps36
  go_wp2_with fail
  (with_reducible refine H.out.mono ?_)
  rintro e w' ⟨rfl, rfl⟩
  go_wp2
  go_ret2
  exact ⟨rfl, rfl⟩
theorem Fail_nil (keep : Int) (names : Bool) (w : World) :
    Calls Tryd.prog 29 #[.pointer none, .int .i64 keep, .bool names] w (fun e w' => e = .returned (.tuple #[.pointer none, .int .i64 2]) ∧ w = w') := by
  have H := Lib.hid (goes_nil (decide (0 ≤ keep)) ⟨#[97]⟩ w)
  go_enter Tryd.func29, Tryd.ntmps29
  go_wp2_with fail
  rw [may_one]
  (with_reducible refine H.out.mono ?_)
  rintro e w' ⟨rfl, rfl⟩
  go_wp2
  go_ret2
  exact ⟨rfl, rfl⟩
theorem Fail_void (g : Nat) (z : Int) (keep : Int) (names : Bool) (w : World) (hc : w.cell? ⟨g, 0, none⟩ = some (.int .i64 z)) (hz : z < 1) :
    Calls Tryd.prog 29 #[.pointer (some ⟨g, 0, none⟩), .int .i64 keep, .bool names] w (fun e w' => e = .returned (.tuple #[.pointer none, .int .i64 2]) ∧ w = w') := by
  have H := Lib.hid (goes_void g z (decide (0 ≤ keep)) ⟨#[97]⟩ w hc hz)
  go_enter Tryd.func29, Tryd.ntmps29
  go_wp2_with fail
  rw [may_one]
  (with_reducible refine H.out.mono ?_)
  rintro e w' ⟨rfl, rfl⟩
  go_wp2
  go_ret2
  exact ⟨rfl, rfl⟩
end Go.Proofs.YtgibdecgmageeaaDoor
