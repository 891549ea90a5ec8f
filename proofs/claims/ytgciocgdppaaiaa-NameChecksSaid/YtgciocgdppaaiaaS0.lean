/- Small facts: bytes, counters, texts as lists; the awake of these laws (pure). -/
import Derived.Test.YtgciocgdppaaiaaO1
import Derived.Test.YtgciocgdppaaiaaPxSignetlaw13Awake
namespace Go.Proofs.Ytgciocgdppaaiaa.Pure
open Go.Proofs.Ytgciocgdppaaiaa Go.Proofs.Ytgciocgdppaaiaa.P Go.RowKit Go.Proofs.YtgciocgdppaaiaaW.PrintWords

theorem toList_inj {a b : ByteArray} (h : a.toList = b.toList) : a = b := by
  rw [ByteArray.toList_eq, ByteArray.toList_eq] at h
  obtain ⟨⟨a⟩⟩ := a
  obtain ⟨⟨b⟩⟩ := b
  simp only at h
  rw [h]

theorem wrap_succ {i : Int} (h0 : 0 ≤ i) (h : i < 9223372036854775807) : wrap64 (i + 1) = i + 1 := by unfold wrap64; omega

theorem awake_true : signetlaw13_awake.f = some true := by decide +kernel

def ofL (l : List UInt8) : ByteArray := ⟨l.toArray⟩
theorem ofL_data (s : ByteArray) : ofL s.data.toList = s := by obtain ⟨⟨l⟩⟩ := s; rfl
theorem data_ofL (l : List UInt8) : (ofL l).data.toList = l := rfl
theorem ba_ext {s t : ByteArray} (h : s.data.toList = t.data.toList) : s = t := by rw [← ofL_data s, ← ofL_data t, h]
theorem toList_ofL (l : List UInt8) : (ofL l).toList = l := by rw [Lib.toList_data]; rfl
theorem size_ofL (l : List UInt8) : (ofL l).size = l.length := by rw [Lib.size_eq]; rfl

theorem bt_nat (s : ByteArray) (i : Nat) (x : UInt8) (h : s.data.toList[i]? = some x) : bt s (i : Int) = (x.toNat : Int) := by
  have hl : i < s.size := by rw [Lib.size_eq]; exact (List.getElem?_eq_some_iff.1 h).1
  unfold bt
  have : (i : Int).toNat < s.size := by omega
  rw [dif_pos this]
  have h2 : s.data[i]? = some x := by rw [← Array.getElem?_toList]; exact h
  have := (Array.getElem?_eq_some_iff.1 h2).2
  rw [← this]
  rfl

theorem get_some (s : ByteArray) (i : Nat) (h : i < s.size) : ∃ x, s.data.toList[i]? = some x := by
  rw [Lib.size_eq] at h
  exact ⟨_, List.getElem?_eq_getElem h⟩

theorem u8_eq {x : UInt8} {n : Nat} (hn : n < 256) : ((x.toNat : Int) = (n : Int)) ↔ x = UInt8.ofNat n := by
  constructor
  · intro h
    have : x.toNat = n := by omega
    apply UInt8.toNat_inj.1
    rw [this, UInt8.toNat_ofNat']
    omega
  · rintro rfl
    rw [UInt8.toNat_ofNat']
    omega

theorem ext_drop (s : ByteArray) (i : Nat) : (s.extract i s.size).data.toList = s.data.toList.drop i := Lib.extract_to_end s i
theorem size_drop (s : ByteArray) (i : Nat) : (s.extract i s.size).size = s.size - i := by
  rw [Lib.size_eq, ext_drop, List.length_drop, ← Lib.size_eq]

theorem drop_at {l : List UInt8} {n : Nat} {c : UInt8} (h : l[n]? = some c) : l.drop n = c :: l.drop (n + 1) := by
  obtain ⟨h1, h2⟩ := List.getElem?_eq_some_iff.1 h
  rw [List.drop_eq_getElem_cons h1, h2]

theorem nil_iff (s : ByteArray) : s.toList = [] ↔ s.data.toList = [] := by rw [Lib.toList_data]

end Go.Proofs.Ytgciocgdppaaiaa.Pure
