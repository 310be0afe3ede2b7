/- Plain laws on names: a name that is written is found; what the document finds is what is found here. -/
import Derived.Test.YtmjagnimdbbbnaaDoorFind
import Derived.Test.YtmjagnimdbbbnaaDoorNum
namespace Go.Proofs.YtmjagnimdbbbnaaDoor
open Go.RowKit

theorem atoiV_itoa (n : Int) (h : I64 n) : atoiV (itoa n) = (n, true) := by
  unfold atoiV
  show (match Lib.atoiAll (Lib.itoa n) with | .ok v => (v, true) | Lib.NumEnd.syntax => (0, false) | .range => (Lib.atoiSat (Lib.itoa n), false)) = (n, true)
  rw [atoi_itoa n h.1 h.2]
theorem data_app (a b : ByteArray) : (a ++ b).data.toList = a.data.toList ++ b.data.toList := by simp
theorem bytes_ext {a b : ByteArray} (h : a.data.toList = b.data.toList) : a = b := ByteArray.ext (Array.toList_inj.1 h)
theorem isErrno_app (x : ByteArray) : isErrno (errnoWord ++ x) = true := by
  unfold isErrno Lib.hasPrefix
  rw [data_app]
  exact List.isPrefixOf_iff_prefix.2 (List.prefix_append _ _)
theorem restOf_app (x : ByteArray) : restOf (errnoWord ++ x) = x := by
  have h := isErrno_app x
  unfold isErrno at h
  apply bytes_ext
  unfold restOf Lib.trimPrefix
  rw [if_pos h, data_app]
  simp
theorem rest_back {s : ByteArray} (h : isErrno s = true) : errnoWord ++ restOf s = s := by
  have h' := h
  unfold isErrno at h'
  apply bytes_ext
  rw [data_app]
  unfold restOf Lib.trimPrefix
  rw [if_pos h']
  unfold Lib.hasPrefix at h'
  obtain ⟨t, ht⟩ := List.isPrefixOf_iff_prefix.1 h'
  rw [← ht]
  simp
theorem names_plain : nameList.all (fun p => !isErrno p.2) = true := by kernel_rfl
theorem numIn_errno {s : ByteArray} (h : isErrno s = true) : numIn s nameList = none := by
  cases hq : numIn s nameList with
  | none => rfl
  | some k =>
    have := List.all_eq_true.1 names_plain _ (numIn_mem s k _ hq)
    simp [h] at this
/-- A number's name is found, and it is that number's. -/
theorem find_name (e : Int) (h : I64 e) : findP (nameP e) = (e, true) := by
  cases hq : nameIn e nameList with
  | some s =>
    have hn : nameP e = s := by rw [nameP, hq]
    rw [hn, findP, numIn_of (nameIn_mem e s _ hq)]
  | none =>
    have hn : nameP e = errnoWord ++ itoa e := by rw [nameP, hq]
    rw [findP, hn, numIn_errno (isErrno_app _), restOf_app, atoiV_itoa e h]
    exact if_pos ⟨isErrno_app _, rfl, hn⟩
end Go.Proofs.YtmjagnimdbbbnaaDoor
