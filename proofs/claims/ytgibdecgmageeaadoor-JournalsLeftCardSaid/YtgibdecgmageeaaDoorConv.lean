/- Bytes that a conversion lays: of a text, of a constant. -/
import Derived.Test.YtgibdecgmageeaaDoorBas
import Derived.Lib.ConvBytes
import Derived.Lib.SlBytesConst
namespace Go.Proofs.YtgibdecgmageeaaDoor
open Go.RowKit
open Go.Lib (bytesWorld bytesWorld_at_old bytesWorld_size bytesWorld_cell)

/-- A text's bytes. -/
def bys (s : ByteArray) : List Int := s.data.toList.map fun b => (b.toNat : Int)
@[simp] theorem length_bys (s : ByteArray) : (bys s).length = s.size := by unfold bys; rw [List.length_map]; rfl
theorem isU8_bys (s : ByteArray) : IsU8 (bys s) := by
  intro x hx
  obtain ⟨b, _, rfl⟩ := List.mem_map.1 hx
  have := b.toNat_lt
  omega
theorem strOfNums_bys (s : ByteArray) : strOfNums (bys s) = s := by
  unfold strOfNums bys
  apply ByteArray.ext
  apply Array.toList_inj.1
  simp only [List.map_map]
  conv => rhs; rw [← List.map_id s.data.toList]
  apply List.map_congr_left
  intro b _
  simp
theorem conv_const (w : World) (C : Array Value) (n c : Nat) : (convert 37 37 (.slice (some ⟨w.heap.size, 0, none⟩) n c)).run Tryd.prog (w.alloc (.cells C 5)) = .ok (.slice (some ⟨w.heap.size, 0, none⟩) n c) (w.alloc (.cells C 5 (C.size, C.size + 1))) :=
  Lib.run_convert_bytes_const w _ _ C n c Tryd.underlying37 Tryd.underlying5
theorem conv_text (w : World) (s : ByteArray) : (convert 9 37 (.string s)).run Tryd.prog w = .ok (.slice (some ⟨w.heap.size, 0, none⟩) s.size (grownCap w s.size 0 5)) (bytesWorld w 5 s) :=
  Lib.run_convert_string_bytes w _ _ _ s Tryd.underlying9 Tryd.underlying37 Tryd.underlying5
theorem below_text (w : World) (e : TypeId) (s : ByteArray) : Below w.heap.size w (bytesWorld w e s) :=
  ⟨rfl, rfl, rfl, by rw [bytesWorld_size]; omega, fun k hk => bytesWorld_at_old w e s k hk⟩
theorem rd_text (w : World) (e : TypeId) (s : ByteArray) : Rd (bytesWorld w e s) (bytesWorld w e s).heap.size (some ⟨w.heap.size, 0, none⟩) (U8 (bys s)) := by
  intro _
  refine ⟨_, rfl, by rw [bytesWorld_size]; simp, fun j u hu => ?_⟩
  have hj : j < s.size := by have := (List.getElem?_eq_some_iff.1 hu).1; simpa using this
  rw [Addr.add_lit, Nat.zero_add, bytesWorld_cell w e s j hj]
  rw [← hu]
  have hj' : j < s.data.toList.length := hj
  simp only [U8, bys, List.map_map, List.getElem?_map, List.getElem?_eq_getElem hj', Option.map_some, List.getD, Option.getD_some]
  rfl
theorem rd_const (w : World) (e : TypeId) (cs : Array Value) (l : List Value) (h : cs = l.toArray) (fr : Nat × Nat) : Rd (w.alloc (.cells cs e fr)) (w.alloc (.cells cs e fr)).heap.size (some ⟨w.heap.size, 0, none⟩) l := by
  subst h
  intro _
  refine ⟨_, rfl, by simp, fun j u hu => ?_⟩
  rw [Addr.add_lit, Nat.zero_add, cell_of_row _ w.heap.size j _ e fr (heap_alloc_new w _)]
  simpa using hu
end Go.Proofs.YtgibdecgmageeaaDoor
