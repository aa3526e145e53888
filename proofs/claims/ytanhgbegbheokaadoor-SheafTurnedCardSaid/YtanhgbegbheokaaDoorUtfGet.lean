/-
  Bytes of a part of a text. No program is in sight.
-/
namespace Go.Proofs.YtanhgbegbheokaaDoor.Utf
theorem get_past (s : ByteArray) (j : Nat) (h : s.size ≤ j) : s.get! j = 0 := by
  cases s with
  | mk d => exact getElem!_neg d j (by have h2 : d.size ≤ j := h; omega)
theorem get_in (s : ByteArray) (j : Nat) (h : j < s.data.toList.length) : s.get! j = s.data.toList[j] := by
  cases s with
  | mk d =>
    have h2 : j < d.size := by simpa using h
    have h3 := getElem!_pos d j h2
    show d[j]! = d.toList[j]
    rw [h3]
    simp
theorem len_list (s : ByteArray) : s.data.toList.length = s.size := Array.length_toList
theorem extract_data (s : ByteArray) (a b : Nat) : (s.extract a b).data.toList = (s.data.toList.drop a).take (b - a) := by
  simp [ByteArray.data_extract, Array.toList_extract, List.extract_eq_take_drop]

theorem get_tail (s : ByteArray) (k j : Nat) : (s.extract k s.size).get! j = s.get! (k + j) := by
  have hl := len_list s
  by_cases h : k + j < s.size
  · have h1 : j < (s.extract k s.size).data.toList.length := by rw [extract_data, List.length_take, List.length_drop]; omega
    have h2 : k + j < s.data.toList.length := by omega
    rw [get_in _ _ h1, get_in _ _ h2]
    simp only [extract_data]
    rw [List.getElem_take, List.getElem_drop]
  · rw [get_past s (k + j) (by omega), get_past (s.extract k s.size) j (by rw [ByteArray.size_extract]; omega)]
theorem get_head (s : ByteArray) (k j : Nat) (h : j < k) (hk : k ≤ s.size) : (s.extract 0 k).get! j = s.get! j := by
  have hl := len_list s
  have h1 : j < (s.extract 0 k).data.toList.length := by rw [extract_data, List.length_take, List.length_drop]; omega
  have h2 : j < s.data.toList.length := by omega
  rw [get_in _ _ h1, get_in _ _ h2]
  simp only [extract_data]
  rw [List.getElem_take, List.getElem_drop]
  simp

end Go.Proofs.YtanhgbegbheokaaDoor.Utf
