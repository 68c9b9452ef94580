/-
  Keys: the program's and the reference's look at a string. Condition: the string is no longer than any string of Go.
-/
import Derived.Test.YtbidnbcclibigaaDoorStream
import Derived.Test.YtbidnbcclibigaaDoorShelf
import Derived.Deep.QuietTactic
import Derived.BigQuiet
import Derived.Outline
import Derived.Lib.IndexAny
namespace Go.Proofs.YtbidnbcclibigaaDoor
open Go.RowKit Go.Bw

def lowc (c : UInt8) : Bool := decide (97 ≤ c.toNat ∧ c.toNat ≤ 122)
def okc (c : UInt8) : Bool := decide ((97 ≤ c.toNat ∧ c.toNat ≤ 122) ∨ (48 ≤ c.toNat ∧ c.toNat ≤ 57) ∨ c.toNat = 45 ∨ c.toNat = 95)
def keyL (l : List UInt8) : Bool := match l with
  | [] => false
  | c :: _ => decide (l.length ≤ 40) && (lowc c && l.all okc)
def keyB (s : ByteArray) : Bool := keyL s.data.toList


theorem list_of (s : ByteArray) (h : 0 < s.size) : ∃ t, s.data.toList = s[0] :: t := by
  have hl : 0 < s.data.toList.length := by simpa using h
  refine ⟨s.data.toList.tail, ?_⟩
  cases hx : s.data.toList with
  | nil => rw [hx] at hl; simp at hl
  | cons c t =>
    have : s[0] = s.data.toList[0]'hl := rfl
    rw [this]
    simp [hx]

theorem keyB_empty {s : ByteArray} (h : s.size = 0) : keyB s = false := by
  have : s.data.toList.length = 0 := by simpa using h
  have := List.length_eq_zero_iff.1 this
  simp [keyB, keyL, this]
theorem keyB_long {s : ByteArray} (h : 40 < s.size) : keyB s = false := by
  obtain ⟨t, ht⟩ := list_of s (by omega)
  have hl : s.data.toList.length = s.size := by simp
  rw [ht] at hl
  simp only [keyB, keyL, ht]
  simp [hl]; omega
theorem keyB_low {s : ByteArray} (h : 0 < s.size) (hc : lowc s[0] = false) : keyB s = false := by
  obtain ⟨t, ht⟩ := list_of s h
  simp only [keyB, keyL, ht]
  simp [hc]
theorem keyB_bad {s : ByteArray} (k : Nat) (h : k < s.size) (hc : okc s[k] = false) : keyB s = false := by
  obtain ⟨t, ht⟩ := list_of s (by omega)
  have hm : s[k] ∈ s.data.toList := by
    have : s[k] = s.data.toList[k]'(by simpa using h) := rfl
    rw [this]
    exact List.getElem_mem _
  have ha : s.data.toList.all okc = false := by
    rw [List.all_eq_false]
    exact ⟨_, hm, by simp [hc]⟩
  rw [ht] at ha
  simp only [keyB, keyL, ht, ha]
  simp
theorem keyB_good {s : ByteArray} (h0 : 0 < s.size) (h : s.size ≤ 40) (hc : lowc s[0] = true) (ha : ∀ (k : Nat) (hk : k < s.size), okc s[k] = true) : keyB s = true := by
  obtain ⟨t, ht⟩ := list_of s h0
  have hl : s.data.toList.length = s.size := by simp
  have hall : s.data.toList.all okc = true := by
    rw [List.all_eq_true]
    intro x hx
    obtain ⟨k, hk, rfl⟩ := List.getElem_of_mem hx
    exact ha k (by simpa using hk)
  rw [ht] at hl hall
  simp only [keyB, keyL, ht, hall]
  simp [hc, hl, h]

/-- All bytes before k are those of a key. -/
def OkTo (s : ByteArray) (k : Nat) : Prop := ∀ (j : Nat) (hj : j < s.size), j < k → okc s[j] = true
theorem OkTo.zero (s : ByteArray) : OkTo s 0 := fun _ _ h => by omega
theorem OkTo.step {s : ByteArray} {k : Nat} (h : OkTo s k) (hk : k < s.size) (hc : okc s[k] = true) : OkTo s (k + 1) := fun j hj h1 => by
  by_cases e : j = k
  · subst e; exact hc
  · exact h j hj (by omega)

theorem okc_cases (c : UInt8) : okc c = true ↔ (97 ≤ (c.toNat : Int) ∧ (c.toNat : Int) ≤ 122) ∨ (48 ≤ (c.toNat : Int) ∧ (c.toNat : Int) ≤ 57) ∨ (c.toNat : Int) = 45 ∨ (c.toNat : Int) = 95 := by
  simp [okc]; omega

set_option maxRecDepth 100000 in
set_option maxHeartbeats 1000000 in
theorem key_prog (s : ByteArray) (w : World) (hs : s.size ≤ 9223372036854775807) :
    Calls Tryd.prog 41 #[.string s] w fun e w' => e = .returned (.bool (keyB s)) ∧ w = w' := by
  by_cases h0 : s.size = 0
  · have hl : s.toList = [] := by
      have : s.data.toList.length = 0 := by simpa using h0
      have := List.length_eq_zero_iff.1 this
      simpa [ByteArray.toList_eq] using this
    have hk := Lib.hid (keyB_empty h0)
    clear h0
    go_enter Tryd.func41, Tryd.ntmps41
    go_wp2_with fail
    go_ret
    exact ⟨ret_bool hk.out.symm, rfl⟩
  · have hpos : 0 < s.size := by omega
    have hl1 : s.toList.isEmpty = false := by
      have : s.data.toList.length ≠ 0 := by simpa using h0
      have : s.data.toList ≠ [] := fun e => this (by rw [e]; rfl)
      simpa [ByteArray.toList_eq] using this
    have hl2 : (!s.toList.isEmpty) = true := by rw [hl1]; rfl
    clear h0
    by_cases h40 : 40 < s.size
    · have hk := Lib.hid (keyB_long h40)
      go_enter Tryd.func41, Tryd.ntmps41
      go_wp2_with fail
      go_ret
      exact ⟨ret_bool hk.out.symm, rfl⟩
    · by_cases hc1 : (s[0].toNat : Int) < 97
      · have hk := Lib.hid (keyB_low hpos (by simp [lowc]; omega))
        go_enter Tryd.func41, Tryd.ntmps41
        go_wp2_with fail
        go_ret
        exact ⟨ret_bool hk.out.symm, rfl⟩
      · by_cases hc2 : 122 < (s[0].toNat : Int)
        · have hk := Lib.hid (keyB_low hpos (by simp [lowc]; omega))
          go_enter Tryd.func41, Tryd.ntmps41
          go_wp2_with fail
          go_ret
          exact ⟨ret_bool hk.out.symm, rfl⟩
        · have hlow := Lib.hid (show lowc s[0] = true by simp [lowc]; omega)
          go_enter Tryd.func41, Tryd.ntmps41
          go_wp2_with fail
          go_loop [24] (fun i => ∃ k : Nat, k ≤ s.size ∧ OkTo s k ∧ i = .int .i64 k) (fun i => s.size - (intOf i).toNat)
          case atStart => exact ⟨0, by omega, OkTo.zero s, rfl⟩
          case round =>
            obtain ⟨k, hk, hok, rfl⟩ := hrel
            by_cases hlt : k < s.size
            · by_cases hb : okc s[k] = true
              · have hst := Lib.hid (hok.step hlt hb)
                have hb' := (okc_cases _).1 hb
                clear hb
                have hc : (∃ e1 : ((s[k].toNat : Int) == 45) = false, ∃ e2 : ((s[k].toNat : Int) == 95) = false, 97 ≤ (s[k].toNat : Int) ∧ (s[k].toNat : Int) ≤ 122) ∨
                    (∃ e1 : ((s[k].toNat : Int) == 45) = false, ∃ e2 : ((s[k].toNat : Int) == 95) = false, 48 ≤ (s[k].toNat : Int) ∧ (s[k].toNat : Int) ≤ 57) ∨
                    (∃ e1 : ((s[k].toNat : Int) == 45) = true, ∃ e2 : ((s[k].toNat : Int) == 95) = false, 45 ≤ (s[k].toNat : Int) ∧ (s[k].toNat : Int) ≤ 46) ∨
                    (∃ e1 : ((s[k].toNat : Int) == 45) = false, ∃ e2 : ((s[k].toNat : Int) == 95) = true, 94 ≤ (s[k].toNat : Int) ∧ (s[k].toNat : Int) ≤ 95) := by
                  rcases hb' with ⟨h1, h2⟩ | ⟨h1, h2⟩ | h1 | h1
                  · exact .inl ⟨by simp; omega, by simp; omega, h1, h2⟩
                  · exact .inr (.inl ⟨by simp; omega, by simp; omega, h1, h2⟩)
                  · exact .inr (.inr (.inl ⟨by simp; omega, by simp; omega, by omega, by omega⟩))
                  · exact .inr (.inr (.inr ⟨by simp; omega, by simp; omega, by omega, by omega⟩))
                clear hb'
                rcases hc with ⟨e1, e2, h1, h2⟩ | ⟨e1, e2, h1, h2⟩ | ⟨e1, e2, h1, h2⟩ | ⟨e1, e2, h1, h2⟩
                all_goals
                  go_wp2_with fail
                  go_round
                  case rel => exact ⟨k + 1, by omega, hst.out, by go_num⟩
                  case measure => simp [intOf]; omega
              · have hkb := Lib.hid (keyB_bad k hlt (by simpa using hb))
                have hb' := mt (okc_cases _).2 hb
                have e1 : ((s[k].toNat : Int) == 45) = false := by simp; omega
                have e2 : ((s[k].toNat : Int) == 95) = false := by simp; omega
                have hc : (s[k].toNat : Int) < 48 ∨ (∃ e3 : decide ((s[k].toNat : Int) ≤ 57) = false, 57 < (s[k].toNat : Int) ∧ (s[k].toNat : Int) < 97) ∨ (∃ e3 : decide ((s[k].toNat : Int) ≤ 57) = false, ∃ e4 : decide ((s[k].toNat : Int) ≤ 122) = false, 122 < (s[k].toNat : Int)) := by
                  by_cases a1 : (s[k].toNat : Int) < 48
                  · exact .inl a1
                  · have e3 : decide ((s[k].toNat : Int) ≤ 57) = false := by simp; omega
                    by_cases a2 : 122 < (s[k].toNat : Int)
                    · exact .inr (.inr ⟨e3, by simp; omega, a2⟩)
                    · exact .inr (.inl ⟨e3, by omega, by omega⟩)
                clear hb hb'
                rcases hc with h1 | ⟨e3, h1, h2⟩ | ⟨e3, e4, h1⟩
                all_goals
                  go_wp2_with fail
                  go_ret
                  exact ⟨ret_bool hkb.out.symm, rfl⟩
            · have hkg := Lib.hid (keyB_good hpos (by omega) hlow.out (fun j hj => hok j hj (by omega)))
              go_wp2_with fail
              go_ret
              exact ⟨ret_bool hkg.out.symm, rfl⟩

theorem out_no {n low high : Int} (h : outB n low high = false) : low ≤ n ∧ n ≤ high := by
  simp [outB] at h; omega
theorem toList_ne {a b : ByteArray} (h : a ≠ b) : (a.toList == b.toList) = false := by
  cases hq : (a.toList == b.toList)
  · rfl
  · have he : a.toList = b.toList := by simpa using hq
    rw [ByteArray.toList_eq, ByteArray.toList_eq] at he
    exact absurd (by cases a; cases b; simp at he; rw [he]) h
/-- All bytes of the one string are among those of the other. -/
def onlyB (s : ByteArray) (some : List UInt8) : Bool := s.data.toList.all fun c => some.contains c

def InTo (s : ByteArray) (l : List UInt8) (k : Nat) : Prop := ∀ (j : Nat) (hj : j < s.size), j < k → l.contains s[j] = true
theorem InTo.step {s : ByteArray} {l : List UInt8} {k : Nat} (h : InTo s l k) (hk : k < s.size) (hc : l.contains s[k] = true) : InTo s l (k + 1) := fun j hj h1 => by
  by_cases e : j = k
  · subst e; exact hc
  · exact h j hj (by omega)
theorem onlyB_bad {s : ByteArray} {l : List UInt8} (k : Nat) (h : k < s.size) (hc : l.contains s[k] = false) : onlyB s l = false := by
  have hm : s[k] ∈ s.data.toList := by
    have : s[k] = s.data.toList[k]'(by simpa using h) := rfl
    rw [this]
    exact List.getElem_mem _
  unfold onlyB
  rw [List.all_eq_false]
  exact ⟨_, hm, by simp only [hc]; decide⟩
theorem onlyB_good {s : ByteArray} {l : List UInt8} (ha : InTo s l s.size) : onlyB s l = true := by
  unfold onlyB
  rw [List.all_eq_true]
  intro x hx
  obtain ⟨k, hk, rfl⟩ := List.getElem_of_mem hx
  exact ha k (by simpa using hk) (by simpa using hk)

set_option maxRecDepth 100000 in
set_option maxHeartbeats 1000000 in
theorem only_any (s some : ByteArray) (w : World) (hs : s.size ≤ 9223372036854775807) :
    Calls Tryd.prog 52 #[.string s, .string some] w fun e w' => e = .returned (.bool (onlyB s some.data.toList)) ∧ w = w' := by
  go_enter Tryd.func52, Tryd.ntmps52
  go_wp2_with fail
  go_loop [8] (fun i => ∃ k : Nat, k ≤ s.size ∧ InTo s some.data.toList k ∧ i = .int .i64 k) (fun i => s.size - (intOf i).toNat)
  case atStart => exact ⟨0, by omega, fun _ _ h => by omega, rfl⟩
  case round =>
    obtain ⟨k, hk, hok, rfl⟩ := hrel
    by_cases hlt : k < s.size
    · have hcon := Lib.contains_iff_indexByte some.data.toList s[k]
      cases hb : some.data.toList.contains s[k]
      · have hkb := Lib.hid (onlyB_bad k hlt hb)
        rw [hb] at hcon
        have hneg : Lib.indexByte some.data.toList s[k] < 0 := by
          have := of_decide_eq_false hcon.symm
          omega
        clear hb hcon
        go_wp2_with (go_at_call 62; refine (Tryd.strings_IndexByte _ _ _).mono ?_; rintro e w1 ⟨rfl, rfl⟩)
        go_ret
        exact ⟨ret_bool hkb.out.symm, rfl⟩
      · have hst := Lib.hid (hok.step hlt hb)
        rw [hb] at hcon
        have hpos : 0 ≤ Lib.indexByte some.data.toList s[k] := of_decide_eq_true hcon.symm
        clear hb hcon
        go_wp2_with (go_at_call 62; refine (Tryd.strings_IndexByte _ _ _).mono ?_; rintro e w1 ⟨rfl, rfl⟩)
        go_round
        case rel => exact ⟨k + 1, by omega, hst.out, by go_num⟩
        case measure => simp [intOf]; omega
    · have hkg := Lib.hid (onlyB_good (s := s) (l := some.data.toList) (fun j hj _ => hok j hj (by omega)))
      go_wp2_with fail
      go_ret
      exact ⟨ret_bool hkg.out.symm, rfl⟩

def smalls : List UInt8 := [97, 98, 99, 100, 101, 102, 103, 104, 105, 106, 107, 108, 109, 110, 111, 112, 113, 114, 115, 116, 117, 118, 119, 120, 121, 122]
def keyc : List UInt8 := smalls ++ [48, 49, 50, 51, 52, 53, 54, 55, 56, 57, 45, 95]
theorem all_bytes (p : UInt8 → Bool) (h : (List.range 256).all (fun n => p n.toUInt8) = true) (c : UInt8) : p c = true := by
  have := List.all_eq_true.1 h c.toNat (by simpa using c.toNat_lt)
  simpa using this
theorem smalls_c (c : UInt8) : smalls.contains c = lowc c := by
  have := all_bytes (fun c => smalls.contains c == lowc c) (by decide +kernel) c
  simpa using this
theorem keyc_c (c : UInt8) : keyc.contains c = okc c := by
  have := all_bytes (fun c => keyc.contains c == okc c) (by decide +kernel) c
  simpa using this

theorem onlyB_head {s : ByteArray} (h : 0 < s.size) : onlyB (s.extract 0 1) smalls = lowc s[0] := by
  obtain ⟨t, ht⟩ := list_of s h
  have : (s.extract 0 1).data.toList = [s[0]] := by
    rw [Lib.extract_data, ht]
    simp
  unfold onlyB
  rw [this]
  show (smalls.contains s[0] && true) = _
  rw [smalls_c, Bool.and_true]
theorem onlyB_all (s : ByteArray) : onlyB s keyc = s.data.toList.all okc := by
  unfold onlyB
  congr 1
  funext c
  exact keyc_c c

theorem in_is (n low high : Int) (b : Bool) (h : (!outB n low high) = b) (w : World) :
    Calls Tryd.prog 34 #[.int .i64 n, .int .i64 low, .int .i64 high] w fun e w' => e = .returned (.bool b) ∧ w = w' := h ▸ in_any n low high w
theorem out_is (n low high : Int) (b : Bool) (h : outB n low high = b) (w : World) :
    Calls Tryd.prog 43 #[.int .i64 n, .int .i64 low, .int .i64 high] w fun e w' => e = .returned (.bool b) ∧ w = w' := h ▸ out_any n low high w
theorem only_is (s some : ByteArray) (b : Bool) (h : onlyB s some.data.toList = b) (w : World) (hs : s.size ≤ 9223372036854775807) :
    Calls Tryd.prog 52 #[.string s, .string some] w fun e w' => e = .returned (.bool b) ∧ w = w' := h ▸ only_any s some w hs
theorem key_is (s : ByteArray) (b : Bool) (h : keyB s = b) (w : World) (hs : s.size ≤ 9223372036854775807) :
    Calls Tryd.prog 41 #[.string s] w fun e w' => e = .returned (.bool b) ∧ w = w' := h ▸ key_prog s w hs

set_option maxRecDepth 100000 in
set_option maxHeartbeats 1000000 in
theorem key_ref (s : ByteArray) (w : World) (hs : s.size ≤ 9223372036854775807) :
    Calls Tryd.prog 33 #[.string s] w fun e w' => e = .returned (.bool (keyB s)) ∧ w = w' := by
  by_cases h0 : s.size = 0 ∨ 40 < s.size
  · have hk : keyB s = false := by
      rcases h0 with h0 | h0
      · exact keyB_empty h0
      · exact keyB_long h0
    have hk := Lib.hid hk
    have ho := Lib.hid (show (!outB s.size 1 40) = false by simp [outB]; omega)
    clear h0
    go_enter Tryd.func33, Tryd.ntmps33
    go_wp2_with (go_at_call 34; refine (in_is _ _ _ _ ho.out _).mono ?_; rintro e w1 ⟨rfl, rfl⟩)
    go_ret
    exact ⟨ret_bool hk.out.symm, rfl⟩
  · have hpos : 0 < s.size := by omega
    have h40 : s.size ≤ 40 := by omega
    have ho := Lib.hid (show (!outB s.size 1 40) = true by simp [outB]; omega)
    have hh := onlyB_head hpos
    have ha := onlyB_all s
    have hx : (s.extract 0 1).size ≤ 9223372036854775807 := by simp; omega
    have hkk : keyB s = (lowc s[0] && s.data.toList.all okc) := by
      obtain ⟨t, ht⟩ := list_of s hpos
      have hl : s.data.toList.length = s.size := by simp
      rw [ht] at hl
      simp only [keyB, keyL, ht]
      simp [hl, h40]
    clear h0
    cases hc : lowc s[0]
    · rw [hc] at hh hkk
      have hk := Lib.hid (show keyB s = false by rw [hkk]; rfl)
      have Hh := Lib.hid hh
      clear hkk ha hh hc
      go_enter Tryd.func33, Tryd.ntmps33
      go_wp2_with first | (go_at_call 34; refine (in_is _ _ _ _ ho.out _).mono ?_; rintro e w1 ⟨rfl, rfl⟩) | (go_at_call 52; refine (only_is (s.extract 0 1) ⟨smalls.toArray⟩ _ Hh.out _ hx).mono ?_; rintro e w1 ⟨rfl, rfl⟩)
      go_ret
      exact ⟨ret_bool hk.out.symm, rfl⟩
    · rw [hc] at hh hkk
      have hk := Lib.hid (show onlyB s keyc = keyB s by rw [ha, hkk]; rfl)
      have Hh := Lib.hid hh
      clear hkk ha hh hc
      go_enter Tryd.func33, Tryd.ntmps33
      go_wp2_with fail
      refine (in_is _ _ _ _ ho.out _).mono ?_
      rintro e w1 ⟨rfl, rfl⟩
      go_wp2_with fail
      refine (only_is (s.extract 0 1) ⟨smalls.toArray⟩ _ Hh.out _ hx).mono ?_
      rintro e w1 ⟨rfl, rfl⟩
      go_wp2_with fail
      refine (only_is s ⟨keyc.toArray⟩ _ hk.out _ hs).mono ?_
      rintro e w1 ⟨rfl, rfl⟩
      go_wp2_with fail
      go_ret
      exact ⟨rfl, rfl⟩

theorem key_ref_is (s : ByteArray) (b : Bool) (h : keyB s = b) (w : World) (hs : s.size ≤ 9223372036854775807) :
    Calls Tryd.prog 33 #[.string s] w fun e w' => e = .returned (.bool b) ∧ w = w' := h ▸ key_ref s w hs
end Go.Proofs.YtbidnbcclibigaaDoor
