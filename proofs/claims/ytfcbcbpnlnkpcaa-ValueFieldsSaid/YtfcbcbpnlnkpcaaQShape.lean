/- value.shape: what is wrong with a node, but for its kids: kind by kind. -/
import Derived.Test.YtfcbcbpnlnkpcaaQBase
import Derived.Deep.DeepCutAuto
import Derived.Deep.CutBlock
namespace Go.Proofs.Ytfcbcbpnlnkpcaa
set_option linter.all false
open Go.RowKit
def box6 (w : World) (k i s : Int) (t : ByteArray) (An : Option Addr) (nl cn : Nat) (Ak : Option Addr) (kl ck : Nat) : World :=
  w.alloc (.cells #[.int .i64 k, .int .i64 i, .int .i64 s, .string t, .slice An nl cn, .slice Ak kl ck] 25)
theorem ret_int {k : IntKind} {a b : Int} (h : a = b) : Ending.returned (.int k a) = .returned (.int k b) := by rw [h]
set_option maxRecDepth 100000 in
set_option maxHeartbeats 6400000 in
theorem shape_k1 (n : Nd) (kl : Nat) (An Ak : Option Addr) (cn ck : Nat) (w : World) (hok : n.ok)
    (hn : okl n.names.length cn) (hkl : okl kl ck) (hr : Rd w w.heap.size 1 An n.names.length (n.names.map sv)) (hk : n.kind = 1) :
    Calls Try.prog 38 #[.agg (ncells n An cn Ak kl ck).toArray] w (Ret (.int .i64 (nerr n kl : Int)) w) := by
  unfold ncells
  have hte0 : (str n.text).toList.isEmpty = n.text.isEmpty := by rw [str_toList]
  have hsz := str_size n.text
  obtain ⟨ht1, ht2, ht3, ht4, _⟩ := hok
  obtain ⟨hn1, hn2⟩ := hn
  obtain ⟨hk1, hk2⟩ := hkl
  clear hr
  have hN : Hid (nerr n kl = if okF n.kind n.int n.scale ((n.int == 0) && (n.scale == 0)) (((n.names.length : Int) == 0) && ((kl : Int) == 0)) n.text.isEmpty ((n.names.length : Int) == 0) = false then 3 else if 16384 < n.text.length ∨ 200 < kl then 5 else if n.kind = 9 ∧ fieldsOk n.names kl = false then 3 else 0) := rfl
  generalize hE : nerr n kl = E at *
  clear hE
  generalize hfo : fieldsOk n.names kl = fo at *
  clear hfo
  generalize hnl : n.names.length = nl at *
  clear hnl
  generalize hte : n.text.isEmpty = te at *
  clear hte
  generalize htl : n.text.length = tl at *
  clear htl
  generalize hst : str n.text = t at *
  clear hst
  generalize n.int = i at *
  generalize n.scale = s at *
  generalize n.kind = kind at *
  unfold I64 at ht1 ht2 ht3
  subst hk
  go_enter Try.func38, Try.ntmps38
  go_upto_region 1 with fail
  go_cut [3] (fun s3 wx => s3 = .bool ((i == 0) && (s == 0)) ∧ wx = box6 w 1 i s t An nl cn Ak kl ck)
  case first =>
    rcases hb : (i == 0) with _ | _
    all_goals (go_wp2_with fail; go_meet; exact ⟨by simp [*], rfl⟩)
  case rest =>
    obtain ⟨rfl, hw⟩ := hcut
    unfold box6 at hw
    subst hw
    have hbare : ∃ b, ((i == 0) && (s == 0)) = b := ⟨_, rfl⟩
    obtain ⟨bare, hbare⟩ := hbare
    rw [hbare] at hN ⊢
    clear hbare
    go_upto_region 2 with fail
    go_cut [4] (fun s4 wx => s4 = .bool (((nl : Int) == 0) && ((kl : Int) == 0)) ∧ wx = box6 w 1 i s t An nl cn Ak kl ck)
    case first =>
      rcases hb : ((nl : Int) == 0) with _ | _
      all_goals (go_wp2_with fail; go_meet; exact ⟨by simp [*], rfl⟩)
    case rest =>
      obtain ⟨rfl, hw⟩ := hcut
      unfold box6 at hw
      subst hw
      have hplain : ∃ b, (((nl : Int) == 0) && ((kl : Int) == 0)) = b := ⟨_, rfl⟩
      obtain ⟨plain, hplain⟩ := hplain
      rw [hplain] at hN ⊢
      clear hplain
      go_upto_block 0 with fail
      go_cut [5] (fun s5 wx => s5 = .bool (okF 1 i s bare plain te ((nl : Int) == 0)) ∧ wx = box6 w 1 i s t An nl cn Ak kl ck)
      case first =>
        cases bare
        · (go_wp2_with fail; go_meet; exact ⟨by simp [okF, *], rfl⟩)
        · cases plain
          · (go_wp2_with fail; go_meet; exact ⟨by simp [okF, *], rfl⟩)
          · cases te
            · (go_wp2_with fail; go_meet; exact ⟨by simp [okF, *], rfl⟩)
            · (go_wp2_with fail; go_meet; exact ⟨by simp [okF, *], rfl⟩)
      case rest =>
        obtain ⟨rfl, hw⟩ := hcut
        unfold box6 at hw
        subst hw
        generalize okF 1 i s bare plain te ((nl : Int) == 0) = okb at *
        have hbel : ∀ o : Obj, Below w.heap.size w (w.alloc o) := fun o => (Below.refl _ _).alloc (Nat.le_refl _) _
        cases okb
        · have hE : Hid (E = 3) := by show E = 3; rw [hN.out]; simp
          clear hN
          go_wp2_with fail
          go_ret
          exact ⟨ret_int (by rw [hE.out]; rfl), hbel _⟩
        · by_cases l1 : 16384 < tl
          · have hE : Hid (E = 5) := by show E = 5; rw [hN.out]; simp [l1]
            clear hN
            go_wp2_with fail
            go_ret
            exact ⟨ret_int (by rw [hE.out]; rfl), hbel _⟩
          · by_cases l2 : 200 < kl
            · have hE : Hid (E = 5) := by show E = 5; rw [hN.out]; simp [l2]
              clear hN
              go_wp2_with fail
              go_ret
              exact ⟨ret_int (by rw [hE.out]; rfl), hbel _⟩
            · have hE : Hid (E = 0) := by show E = 0; rw [hN.out]; simp [l1, l2]
              clear hN
              go_wp2_with fail
              go_ret
              exact ⟨ret_int (by rw [hE.out]; rfl), hbel _⟩
end Go.Proofs.Ytfcbcbpnlnkpcaa
/- value.shape: what is wrong with a node, but for its kids: kind by kind. -/
namespace Go.Proofs.Ytfcbcbpnlnkpcaa
set_option linter.all false
open Go.RowKit
set_option maxRecDepth 100000 in
set_option maxHeartbeats 6400000 in
theorem shape_k2 (n : Nd) (kl : Nat) (An Ak : Option Addr) (cn ck : Nat) (w : World) (hok : n.ok)
    (hn : okl n.names.length cn) (hkl : okl kl ck) (hr : Rd w w.heap.size 1 An n.names.length (n.names.map sv)) (hk : n.kind = 2) :
    Calls Try.prog 38 #[.agg (ncells n An cn Ak kl ck).toArray] w (Ret (.int .i64 (nerr n kl : Int)) w) := by
  unfold ncells
  have hte0 : (str n.text).toList.isEmpty = n.text.isEmpty := by rw [str_toList]
  have hsz := str_size n.text
  obtain ⟨ht1, ht2, ht3, ht4, _⟩ := hok
  obtain ⟨hn1, hn2⟩ := hn
  obtain ⟨hk1, hk2⟩ := hkl
  clear hr
  have hN : Hid (nerr n kl = if okF n.kind n.int n.scale ((n.int == 0) && (n.scale == 0)) (((n.names.length : Int) == 0) && ((kl : Int) == 0)) n.text.isEmpty ((n.names.length : Int) == 0) = false then 3 else if 16384 < n.text.length ∨ 200 < kl then 5 else if n.kind = 9 ∧ fieldsOk n.names kl = false then 3 else 0) := rfl
  generalize hE : nerr n kl = E at *
  clear hE
  generalize hfo : fieldsOk n.names kl = fo at *
  clear hfo
  generalize hnl : n.names.length = nl at *
  clear hnl
  generalize hte : n.text.isEmpty = te at *
  clear hte
  generalize htl : n.text.length = tl at *
  clear htl
  generalize hst : str n.text = t at *
  clear hst
  generalize n.int = i at *
  generalize n.scale = s at *
  generalize n.kind = kind at *
  unfold I64 at ht1 ht2 ht3
  subst hk
  go_enter Try.func38, Try.ntmps38
  go_upto_region 1 with fail
  go_cut [3] (fun s3 wx => s3 = .bool ((i == 0) && (s == 0)) ∧ wx = box6 w 2 i s t An nl cn Ak kl ck)
  case first =>
    rcases hb : (i == 0) with _ | _
    all_goals (go_wp2_with fail; go_meet; exact ⟨by simp [*], rfl⟩)
  case rest =>
    obtain ⟨rfl, hw⟩ := hcut
    unfold box6 at hw
    subst hw
    have hbare : ∃ b, ((i == 0) && (s == 0)) = b := ⟨_, rfl⟩
    obtain ⟨bare, hbare⟩ := hbare
    rw [hbare] at hN ⊢
    clear hbare
    go_upto_region 2 with fail
    go_cut [4] (fun s4 wx => s4 = .bool (((nl : Int) == 0) && ((kl : Int) == 0)) ∧ wx = box6 w 2 i s t An nl cn Ak kl ck)
    case first =>
      rcases hb : ((nl : Int) == 0) with _ | _
      all_goals (go_wp2_with fail; go_meet; exact ⟨by simp [*], rfl⟩)
    case rest =>
      obtain ⟨rfl, hw⟩ := hcut
      unfold box6 at hw
      subst hw
      have hplain : ∃ b, (((nl : Int) == 0) && ((kl : Int) == 0)) = b := ⟨_, rfl⟩
      obtain ⟨plain, hplain⟩ := hplain
      rw [hplain] at hN ⊢
      clear hplain
      go_upto_block 0 with fail
      go_cut [5] (fun s5 wx => s5 = .bool (okF 2 i s bare plain te ((nl : Int) == 0)) ∧ wx = box6 w 2 i s t An nl cn Ak kl ck)
      case first =>
        rcases z1 : (i / 2 == 0) with _ | _
        · (go_wp2_with fail; go_meet; exact ⟨by simp [okF, *], rfl⟩)
        · rcases z2 : (s == 0) with _ | _
          · (go_wp2_with fail; go_meet; exact ⟨by simp [okF, *], rfl⟩)
          · cases plain
            · (go_wp2_with fail; go_meet; exact ⟨by simp [okF, *], rfl⟩)
            · cases te
              · (go_wp2_with fail; go_meet; exact ⟨by simp [okF, *], rfl⟩)
              · (go_wp2_with fail; go_meet; exact ⟨by simp [okF, *], rfl⟩)
      case rest =>
        obtain ⟨rfl, hw⟩ := hcut
        unfold box6 at hw
        subst hw
        generalize okF 2 i s bare plain te ((nl : Int) == 0) = okb at *
        have hbel : ∀ o : Obj, Below w.heap.size w (w.alloc o) := fun o => (Below.refl _ _).alloc (Nat.le_refl _) _
        cases okb
        · have hE : Hid (E = 3) := by show E = 3; rw [hN.out]; simp
          clear hN
          go_wp2_with fail
          go_ret
          exact ⟨ret_int (by rw [hE.out]; rfl), hbel _⟩
        · by_cases l1 : 16384 < tl
          · have hE : Hid (E = 5) := by show E = 5; rw [hN.out]; simp [l1]
            clear hN
            go_wp2_with fail
            go_ret
            exact ⟨ret_int (by rw [hE.out]; rfl), hbel _⟩
          · by_cases l2 : 200 < kl
            · have hE : Hid (E = 5) := by show E = 5; rw [hN.out]; simp [l2]
              clear hN
              go_wp2_with fail
              go_ret
              exact ⟨ret_int (by rw [hE.out]; rfl), hbel _⟩
            · have hE : Hid (E = 0) := by show E = 0; rw [hN.out]; simp [l1, l2]
              clear hN
              go_wp2_with fail
              go_ret
              exact ⟨ret_int (by rw [hE.out]; rfl), hbel _⟩
set_option maxRecDepth 100000 in
set_option maxHeartbeats 6400000 in
theorem shape_k3 (n : Nd) (kl : Nat) (An Ak : Option Addr) (cn ck : Nat) (w : World) (hok : n.ok)
    (hn : okl n.names.length cn) (hkl : okl kl ck) (hr : Rd w w.heap.size 1 An n.names.length (n.names.map sv)) (hk : n.kind = 3) :
    Calls Try.prog 38 #[.agg (ncells n An cn Ak kl ck).toArray] w (Ret (.int .i64 (nerr n kl : Int)) w) := by
  unfold ncells
  have hte0 : (str n.text).toList.isEmpty = n.text.isEmpty := by rw [str_toList]
  have hsz := str_size n.text
  obtain ⟨ht1, ht2, ht3, ht4, _⟩ := hok
  obtain ⟨hn1, hn2⟩ := hn
  obtain ⟨hk1, hk2⟩ := hkl
  clear hr
  have hN : Hid (nerr n kl = if okF n.kind n.int n.scale ((n.int == 0) && (n.scale == 0)) (((n.names.length : Int) == 0) && ((kl : Int) == 0)) n.text.isEmpty ((n.names.length : Int) == 0) = false then 3 else if 16384 < n.text.length ∨ 200 < kl then 5 else if n.kind = 9 ∧ fieldsOk n.names kl = false then 3 else 0) := rfl
  generalize hE : nerr n kl = E at *
  clear hE
  generalize hfo : fieldsOk n.names kl = fo at *
  clear hfo
  generalize hnl : n.names.length = nl at *
  clear hnl
  generalize hte : n.text.isEmpty = te at *
  clear hte
  generalize htl : n.text.length = tl at *
  clear htl
  generalize hst : str n.text = t at *
  clear hst
  generalize n.int = i at *
  generalize n.scale = s at *
  generalize n.kind = kind at *
  unfold I64 at ht1 ht2 ht3
  subst hk
  go_enter Try.func38, Try.ntmps38
  go_upto_region 1 with fail
  go_cut [3] (fun s3 wx => s3 = .bool ((i == 0) && (s == 0)) ∧ wx = box6 w 3 i s t An nl cn Ak kl ck)
  case first =>
    rcases hb : (i == 0) with _ | _
    all_goals (go_wp2_with fail; go_meet; exact ⟨by simp [*], rfl⟩)
  case rest =>
    obtain ⟨rfl, hw⟩ := hcut
    unfold box6 at hw
    subst hw
    have hbare : ∃ b, ((i == 0) && (s == 0)) = b := ⟨_, rfl⟩
    obtain ⟨bare, hbare⟩ := hbare
    rw [hbare] at hN ⊢
    clear hbare
    go_upto_region 2 with fail
    go_cut [4] (fun s4 wx => s4 = .bool (((nl : Int) == 0) && ((kl : Int) == 0)) ∧ wx = box6 w 3 i s t An nl cn Ak kl ck)
    case first =>
      rcases hb : ((nl : Int) == 0) with _ | _
      all_goals (go_wp2_with fail; go_meet; exact ⟨by simp [*], rfl⟩)
    case rest =>
      obtain ⟨rfl, hw⟩ := hcut
      unfold box6 at hw
      subst hw
      have hplain : ∃ b, (((nl : Int) == 0) && ((kl : Int) == 0)) = b := ⟨_, rfl⟩
      obtain ⟨plain, hplain⟩ := hplain
      rw [hplain] at hN ⊢
      clear hplain
      go_upto_block 0 with fail
      go_cut [5] (fun s5 wx => s5 = .bool (okF 3 i s bare plain te ((nl : Int) == 0)) ∧ wx = box6 w 3 i s t An nl cn Ak kl ck)
      case first =>
        rcases z2 : (s == 0) with _ | _
        · (go_wp2_with fail; go_meet; exact ⟨by simp [okF, *], rfl⟩)
        · cases plain
          · (go_wp2_with fail; go_meet; exact ⟨by simp [okF, *], rfl⟩)
          · cases te
            · (go_wp2_with fail; go_meet; exact ⟨by simp [okF, *], rfl⟩)
            · (go_wp2_with fail; go_meet; exact ⟨by simp [okF, *], rfl⟩)
      case rest =>
        obtain ⟨rfl, hw⟩ := hcut
        unfold box6 at hw
        subst hw
        generalize okF 3 i s bare plain te ((nl : Int) == 0) = okb at *
        have hbel : ∀ o : Obj, Below w.heap.size w (w.alloc o) := fun o => (Below.refl _ _).alloc (Nat.le_refl _) _
        cases okb
        · have hE : Hid (E = 3) := by show E = 3; rw [hN.out]; simp
          clear hN
          go_wp2_with fail
          go_ret
          exact ⟨ret_int (by rw [hE.out]; rfl), hbel _⟩
        · by_cases l1 : 16384 < tl
          · have hE : Hid (E = 5) := by show E = 5; rw [hN.out]; simp [l1]
            clear hN
            go_wp2_with fail
            go_ret
            exact ⟨ret_int (by rw [hE.out]; rfl), hbel _⟩
          · by_cases l2 : 200 < kl
            · have hE : Hid (E = 5) := by show E = 5; rw [hN.out]; simp [l2]
              clear hN
              go_wp2_with fail
              go_ret
              exact ⟨ret_int (by rw [hE.out]; rfl), hbel _⟩
            · have hE : Hid (E = 0) := by show E = 0; rw [hN.out]; simp [l1, l2]
              clear hN
              go_wp2_with fail
              go_ret
              exact ⟨ret_int (by rw [hE.out]; rfl), hbel _⟩
set_option maxRecDepth 100000 in
set_option maxHeartbeats 6400000 in
theorem shape_k6 (n : Nd) (kl : Nat) (An Ak : Option Addr) (cn ck : Nat) (w : World) (hok : n.ok)
    (hn : okl n.names.length cn) (hkl : okl kl ck) (hr : Rd w w.heap.size 1 An n.names.length (n.names.map sv)) (hk : n.kind = 6) :
    Calls Try.prog 38 #[.agg (ncells n An cn Ak kl ck).toArray] w (Ret (.int .i64 (nerr n kl : Int)) w) := by
  unfold ncells
  have hte0 : (str n.text).toList.isEmpty = n.text.isEmpty := by rw [str_toList]
  have hsz := str_size n.text
  obtain ⟨ht1, ht2, ht3, ht4, _⟩ := hok
  obtain ⟨hn1, hn2⟩ := hn
  obtain ⟨hk1, hk2⟩ := hkl
  clear hr
  have hN : Hid (nerr n kl = if okF n.kind n.int n.scale ((n.int == 0) && (n.scale == 0)) (((n.names.length : Int) == 0) && ((kl : Int) == 0)) n.text.isEmpty ((n.names.length : Int) == 0) = false then 3 else if 16384 < n.text.length ∨ 200 < kl then 5 else if n.kind = 9 ∧ fieldsOk n.names kl = false then 3 else 0) := rfl
  generalize hE : nerr n kl = E at *
  clear hE
  generalize hfo : fieldsOk n.names kl = fo at *
  clear hfo
  generalize hnl : n.names.length = nl at *
  clear hnl
  generalize hte : n.text.isEmpty = te at *
  clear hte
  generalize htl : n.text.length = tl at *
  clear htl
  generalize hst : str n.text = t at *
  clear hst
  generalize n.int = i at *
  generalize n.scale = s at *
  generalize n.kind = kind at *
  unfold I64 at ht1 ht2 ht3
  subst hk
  go_enter Try.func38, Try.ntmps38
  go_upto_region 1 with fail
  go_cut [3] (fun s3 wx => s3 = .bool ((i == 0) && (s == 0)) ∧ wx = box6 w 6 i s t An nl cn Ak kl ck)
  case first =>
    rcases hb : (i == 0) with _ | _
    all_goals (go_wp2_with fail; go_meet; exact ⟨by simp [*], rfl⟩)
  case rest =>
    obtain ⟨rfl, hw⟩ := hcut
    unfold box6 at hw
    subst hw
    have hbare : ∃ b, ((i == 0) && (s == 0)) = b := ⟨_, rfl⟩
    obtain ⟨bare, hbare⟩ := hbare
    rw [hbare] at hN ⊢
    clear hbare
    go_upto_region 2 with fail
    go_cut [4] (fun s4 wx => s4 = .bool (((nl : Int) == 0) && ((kl : Int) == 0)) ∧ wx = box6 w 6 i s t An nl cn Ak kl ck)
    case first =>
      rcases hb : ((nl : Int) == 0) with _ | _
      all_goals (go_wp2_with fail; go_meet; exact ⟨by simp [*], rfl⟩)
    case rest =>
      obtain ⟨rfl, hw⟩ := hcut
      unfold box6 at hw
      subst hw
      have hplain : ∃ b, (((nl : Int) == 0) && ((kl : Int) == 0)) = b := ⟨_, rfl⟩
      obtain ⟨plain, hplain⟩ := hplain
      rw [hplain] at hN ⊢
      clear hplain
      go_upto_block 0 with fail
      go_cut [5] (fun s5 wx => s5 = .bool (okF 6 i s bare plain te ((nl : Int) == 0)) ∧ wx = box6 w 6 i s t An nl cn Ak kl ck)
      case first =>
        cases bare
        · (go_wp2_with fail; go_meet; exact ⟨by simp [okF, *], rfl⟩)
        · cases plain
          · (go_wp2_with fail; go_meet; exact ⟨by simp [okF, *], rfl⟩)
          · (go_wp2_with fail; go_meet; exact ⟨by simp [okF, *], rfl⟩)
      case rest =>
        obtain ⟨rfl, hw⟩ := hcut
        unfold box6 at hw
        subst hw
        generalize okF 6 i s bare plain te ((nl : Int) == 0) = okb at *
        have hbel : ∀ o : Obj, Below w.heap.size w (w.alloc o) := fun o => (Below.refl _ _).alloc (Nat.le_refl _) _
        cases okb
        · have hE : Hid (E = 3) := by show E = 3; rw [hN.out]; simp
          clear hN
          go_wp2_with fail
          go_ret
          exact ⟨ret_int (by rw [hE.out]; rfl), hbel _⟩
        · by_cases l1 : 16384 < tl
          · have hE : Hid (E = 5) := by show E = 5; rw [hN.out]; simp [l1]
            clear hN
            go_wp2_with fail
            go_ret
            exact ⟨ret_int (by rw [hE.out]; rfl), hbel _⟩
          · by_cases l2 : 200 < kl
            · have hE : Hid (E = 5) := by show E = 5; rw [hN.out]; simp [l2]
              clear hN
              go_wp2_with fail
              go_ret
              exact ⟨ret_int (by rw [hE.out]; rfl), hbel _⟩
            · have hE : Hid (E = 0) := by show E = 0; rw [hN.out]; simp [l1, l2]
              clear hN
              go_wp2_with fail
              go_ret
              exact ⟨ret_int (by rw [hE.out]; rfl), hbel _⟩
end Go.Proofs.Ytfcbcbpnlnkpcaa
/- value.shape: what is wrong with a node, but for its kids: kind by kind. -/
namespace Go.Proofs.Ytfcbcbpnlnkpcaa
set_option linter.all false
open Go.RowKit
set_option maxRecDepth 100000 in
set_option maxHeartbeats 6400000 in
theorem shape_k4 (n : Nd) (kl : Nat) (An Ak : Option Addr) (cn ck : Nat) (w : World) (hok : n.ok)
    (hn : okl n.names.length cn) (hkl : okl kl ck) (hr : Rd w w.heap.size 1 An n.names.length (n.names.map sv)) (hk : n.kind = 4) :
    Calls Try.prog 38 #[.agg (ncells n An cn Ak kl ck).toArray] w (Ret (.int .i64 (nerr n kl : Int)) w) := by
  unfold ncells
  have hte0 : (str n.text).toList.isEmpty = n.text.isEmpty := by rw [str_toList]
  have hsz := str_size n.text
  obtain ⟨ht1, ht2, ht3, ht4, _⟩ := hok
  obtain ⟨hn1, hn2⟩ := hn
  obtain ⟨hk1, hk2⟩ := hkl
  clear hr
  have hN : Hid (nerr n kl = if okF n.kind n.int n.scale ((n.int == 0) && (n.scale == 0)) (((n.names.length : Int) == 0) && ((kl : Int) == 0)) n.text.isEmpty ((n.names.length : Int) == 0) = false then 3 else if 16384 < n.text.length ∨ 200 < kl then 5 else if n.kind = 9 ∧ fieldsOk n.names kl = false then 3 else 0) := rfl
  generalize hE : nerr n kl = E at *
  clear hE
  generalize hfo : fieldsOk n.names kl = fo at *
  clear hfo
  generalize hnl : n.names.length = nl at *
  clear hnl
  generalize hte : n.text.isEmpty = te at *
  clear hte
  generalize htl : n.text.length = tl at *
  clear htl
  generalize hst : str n.text = t at *
  clear hst
  generalize n.int = i at *
  generalize n.scale = s at *
  generalize n.kind = kind at *
  unfold I64 at ht1 ht2 ht3
  subst hk
  go_enter Try.func38, Try.ntmps38
  go_upto_region 1 with fail
  go_cut [3] (fun s3 wx => s3 = .bool ((i == 0) && (s == 0)) ∧ wx = box6 w 4 i s t An nl cn Ak kl ck)
  case first =>
    rcases hb : (i == 0) with _ | _
    all_goals (go_wp2_with fail; go_meet; exact ⟨by simp [*], rfl⟩)
  case rest =>
    obtain ⟨rfl, hw⟩ := hcut
    unfold box6 at hw
    subst hw
    have hbare : ∃ b, ((i == 0) && (s == 0)) = b := ⟨_, rfl⟩
    obtain ⟨bare, hbare⟩ := hbare
    rw [hbare] at hN ⊢
    clear hbare
    go_upto_region 2 with fail
    go_cut [4] (fun s4 wx => s4 = .bool (((nl : Int) == 0) && ((kl : Int) == 0)) ∧ wx = box6 w 4 i s t An nl cn Ak kl ck)
    case first =>
      rcases hb : ((nl : Int) == 0) with _ | _
      all_goals (go_wp2_with fail; go_meet; exact ⟨by simp [*], rfl⟩)
    case rest =>
      obtain ⟨rfl, hw⟩ := hcut
      unfold box6 at hw
      subst hw
      have hplain : ∃ b, (((nl : Int) == 0) && ((kl : Int) == 0)) = b := ⟨_, rfl⟩
      obtain ⟨plain, hplain⟩ := hplain
      rw [hplain] at hN ⊢
      clear hplain
      go_upto_block 0 with fail
      go_cut [5] (fun s5 wx => s5 = .bool (okF 4 i s bare plain te ((nl : Int) == 0)) ∧ wx = box6 w 4 i s t An nl cn Ak kl ck)
      case first =>
        rcases z1 : decide (1 ≤ s) with _ | _
        · (go_wp2_with fail; go_meet; exact ⟨by simp [okF, *], rfl⟩)
        · rcases z2 : decide (s ≤ 18) with _ | _
          · (go_wp2_with fail; go_meet; exact ⟨by simp [okF, *], rfl⟩)
          · rcases z3 : (i.tmod 10 != 0) with _ | _
            · (go_wp2_with fail; go_meet; exact ⟨by simp [okF, *], rfl⟩)
            · cases plain
              · (go_wp2_with fail; go_meet; exact ⟨by simp [okF, *], rfl⟩)
              · cases te
                · (go_wp2_with fail; go_meet; exact ⟨by simp [okF, *], rfl⟩)
                · (go_wp2_with fail; go_meet; exact ⟨by simp [okF, *], rfl⟩)
      case rest =>
        obtain ⟨rfl, hw⟩ := hcut
        unfold box6 at hw
        subst hw
        generalize okF 4 i s bare plain te ((nl : Int) == 0) = okb at *
        have hbel : ∀ o : Obj, Below w.heap.size w (w.alloc o) := fun o => (Below.refl _ _).alloc (Nat.le_refl _) _
        cases okb
        · have hE : Hid (E = 3) := by show E = 3; rw [hN.out]; simp
          clear hN
          go_wp2_with fail
          go_ret
          exact ⟨ret_int (by rw [hE.out]; rfl), hbel _⟩
        · by_cases l1 : 16384 < tl
          · have hE : Hid (E = 5) := by show E = 5; rw [hN.out]; simp [l1]
            clear hN
            go_wp2_with fail
            go_ret
            exact ⟨ret_int (by rw [hE.out]; rfl), hbel _⟩
          · by_cases l2 : 200 < kl
            · have hE : Hid (E = 5) := by show E = 5; rw [hN.out]; simp [l2]
              clear hN
              go_wp2_with fail
              go_ret
              exact ⟨ret_int (by rw [hE.out]; rfl), hbel _⟩
            · have hE : Hid (E = 0) := by show E = 0; rw [hN.out]; simp [l1, l2]
              clear hN
              go_wp2_with fail
              go_ret
              exact ⟨ret_int (by rw [hE.out]; rfl), hbel _⟩
set_option maxRecDepth 100000 in
set_option maxHeartbeats 6400000 in
theorem shape_k7 (n : Nd) (kl : Nat) (An Ak : Option Addr) (cn ck : Nat) (w : World) (hok : n.ok)
    (hn : okl n.names.length cn) (hkl : okl kl ck) (hr : Rd w w.heap.size 1 An n.names.length (n.names.map sv)) (hk : n.kind = 7) :
    Calls Try.prog 38 #[.agg (ncells n An cn Ak kl ck).toArray] w (Ret (.int .i64 (nerr n kl : Int)) w) := by
  unfold ncells
  have hte0 : (str n.text).toList.isEmpty = n.text.isEmpty := by rw [str_toList]
  have hsz := str_size n.text
  obtain ⟨ht1, ht2, ht3, ht4, _⟩ := hok
  obtain ⟨hn1, hn2⟩ := hn
  obtain ⟨hk1, hk2⟩ := hkl
  clear hr
  have hN : Hid (nerr n kl = if okF n.kind n.int n.scale ((n.int == 0) && (n.scale == 0)) (((n.names.length : Int) == 0) && ((kl : Int) == 0)) n.text.isEmpty ((n.names.length : Int) == 0) = false then 3 else if 16384 < n.text.length ∨ 200 < kl then 5 else if n.kind = 9 ∧ fieldsOk n.names kl = false then 3 else 0) := rfl
  generalize hE : nerr n kl = E at *
  clear hE
  generalize hfo : fieldsOk n.names kl = fo at *
  clear hfo
  generalize hnl : n.names.length = nl at *
  clear hnl
  generalize hte : n.text.isEmpty = te at *
  clear hte
  generalize htl : n.text.length = tl at *
  clear htl
  generalize hst : str n.text = t at *
  clear hst
  generalize n.int = i at *
  generalize n.scale = s at *
  generalize n.kind = kind at *
  unfold I64 at ht1 ht2 ht3
  subst hk
  go_enter Try.func38, Try.ntmps38
  go_upto_region 1 with fail
  go_cut [3] (fun s3 wx => s3 = .bool ((i == 0) && (s == 0)) ∧ wx = box6 w 7 i s t An nl cn Ak kl ck)
  case first =>
    rcases hb : (i == 0) with _ | _
    all_goals (go_wp2_with fail; go_meet; exact ⟨by simp [*], rfl⟩)
  case rest =>
    obtain ⟨rfl, hw⟩ := hcut
    unfold box6 at hw
    subst hw
    have hbare : ∃ b, ((i == 0) && (s == 0)) = b := ⟨_, rfl⟩
    obtain ⟨bare, hbare⟩ := hbare
    rw [hbare] at hN ⊢
    clear hbare
    go_upto_region 2 with fail
    go_cut [4] (fun s4 wx => s4 = .bool (((nl : Int) == 0) && ((kl : Int) == 0)) ∧ wx = box6 w 7 i s t An nl cn Ak kl ck)
    case first =>
      rcases hb : ((nl : Int) == 0) with _ | _
      all_goals (go_wp2_with fail; go_meet; exact ⟨by simp [*], rfl⟩)
    case rest =>
      obtain ⟨rfl, hw⟩ := hcut
      unfold box6 at hw
      subst hw
      have hplain : ∃ b, (((nl : Int) == 0) && ((kl : Int) == 0)) = b := ⟨_, rfl⟩
      obtain ⟨plain, hplain⟩ := hplain
      rw [hplain] at hN ⊢
      clear hplain
      go_upto_block 0 with fail
      go_cut [5] (fun s5 wx => s5 = .bool (okF 7 i s bare plain te ((nl : Int) == 0)) ∧ wx = box6 w 7 i s t An nl cn Ak kl ck)
      case first =>
        cases bare
        · (go_wp2_with fail; go_meet; exact ⟨by simp [okF, *], rfl⟩)
        · cases plain
          · (go_wp2_with fail; go_meet; exact ⟨by simp [okF, *], rfl⟩)
          · (go_wp2_with fail; go_meet; exact ⟨by simp [okF, *], rfl⟩)
      case rest =>
        obtain ⟨rfl, hw⟩ := hcut
        unfold box6 at hw
        subst hw
        generalize okF 7 i s bare plain te ((nl : Int) == 0) = okb at *
        have hbel : ∀ o : Obj, Below w.heap.size w (w.alloc o) := fun o => (Below.refl _ _).alloc (Nat.le_refl _) _
        cases okb
        · have hE : Hid (E = 3) := by show E = 3; rw [hN.out]; simp
          clear hN
          go_wp2_with fail
          go_ret
          exact ⟨ret_int (by rw [hE.out]; rfl), hbel _⟩
        · by_cases l1 : 16384 < tl
          · have hE : Hid (E = 5) := by show E = 5; rw [hN.out]; simp [l1]
            clear hN
            go_wp2_with fail
            go_ret
            exact ⟨ret_int (by rw [hE.out]; rfl), hbel _⟩
          · by_cases l2 : 200 < kl
            · have hE : Hid (E = 5) := by show E = 5; rw [hN.out]; simp [l2]
              clear hN
              go_wp2_with fail
              go_ret
              exact ⟨ret_int (by rw [hE.out]; rfl), hbel _⟩
            · have hE : Hid (E = 0) := by show E = 0; rw [hN.out]; simp [l1, l2]
              clear hN
              go_wp2_with fail
              go_ret
              exact ⟨ret_int (by rw [hE.out]; rfl), hbel _⟩
end Go.Proofs.Ytfcbcbpnlnkpcaa
/- value.shape: what is wrong with a node, but for its kids: kind by kind. -/
namespace Go.Proofs.Ytfcbcbpnlnkpcaa
set_option linter.all false
open Go.RowKit
set_option maxRecDepth 100000 in
set_option maxHeartbeats 6400000 in
theorem shape_k5 (n : Nd) (kl : Nat) (An Ak : Option Addr) (cn ck : Nat) (w : World) (hok : n.ok)
    (hn : okl n.names.length cn) (hkl : okl kl ck) (hr : Rd w w.heap.size 1 An n.names.length (n.names.map sv)) (hk : n.kind = 5) :
    Calls Try.prog 38 #[.agg (ncells n An cn Ak kl ck).toArray] w (Ret (.int .i64 (nerr n kl : Int)) w) := by
  unfold ncells
  have hte0 : (str n.text).toList.isEmpty = n.text.isEmpty := by rw [str_toList]
  have hsz := str_size n.text
  obtain ⟨ht1, ht2, ht3, ht4, _⟩ := hok
  obtain ⟨hn1, hn2⟩ := hn
  obtain ⟨hk1, hk2⟩ := hkl
  clear hr
  have hN : Hid (nerr n kl = if okF n.kind n.int n.scale ((n.int == 0) && (n.scale == 0)) (((n.names.length : Int) == 0) && ((kl : Int) == 0)) n.text.isEmpty ((n.names.length : Int) == 0) = false then 3 else if 16384 < n.text.length ∨ 200 < kl then 5 else if n.kind = 9 ∧ fieldsOk n.names kl = false then 3 else 0) := rfl
  generalize hE : nerr n kl = E at *
  clear hE
  generalize hfo : fieldsOk n.names kl = fo at *
  clear hfo
  generalize hnl : n.names.length = nl at *
  clear hnl
  generalize hte : n.text.isEmpty = te at *
  clear hte
  generalize htl : n.text.length = tl at *
  clear htl
  generalize hst : str n.text = t at *
  clear hst
  generalize n.int = i at *
  generalize n.scale = s at *
  generalize n.kind = kind at *
  unfold I64 at ht1 ht2 ht3
  subst hk
  go_enter Try.func38, Try.ntmps38
  go_upto_region 1 with fail
  go_cut [3] (fun s3 wx => s3 = .bool ((i == 0) && (s == 0)) ∧ wx = box6 w 5 i s t An nl cn Ak kl ck)
  case first =>
    rcases hb : (i == 0) with _ | _
    all_goals (go_wp2_with fail; go_meet; exact ⟨by simp [*], rfl⟩)
  case rest =>
    obtain ⟨rfl, hw⟩ := hcut
    unfold box6 at hw
    subst hw
    have hbare : ∃ b, ((i == 0) && (s == 0)) = b := ⟨_, rfl⟩
    obtain ⟨bare, hbare⟩ := hbare
    rw [hbare] at hN ⊢
    clear hbare
    go_upto_region 2 with fail
    go_cut [4] (fun s4 wx => s4 = .bool (((nl : Int) == 0) && ((kl : Int) == 0)) ∧ wx = box6 w 5 i s t An nl cn Ak kl ck)
    case first =>
      rcases hb : ((nl : Int) == 0) with _ | _
      all_goals (go_wp2_with fail; go_meet; exact ⟨by simp [*], rfl⟩)
    case rest =>
      obtain ⟨rfl, hw⟩ := hcut
      unfold box6 at hw
      subst hw
      have hplain : ∃ b, (((nl : Int) == 0) && ((kl : Int) == 0)) = b := ⟨_, rfl⟩
      obtain ⟨plain, hplain⟩ := hplain
      rw [hplain] at hN ⊢
      clear hplain
      go_upto_block 0 with fail
      go_cut [5] (fun s5 wx => s5 = .bool (okF 5 i s bare plain te ((nl : Int) == 0)) ∧ wx = box6 w 5 i s t An nl cn Ak kl ck)
      case first =>
        rcases z1 : decide (0 ≤ i) with _ | _
        · (go_wp2_with fail; go_meet; exact ⟨by simp [okF, *], rfl⟩)
        · rcases z2 : decide (i ≤ 9007199254740992) with _ | _
          · (go_wp2_with fail; go_meet; exact ⟨by simp [okF, *], rfl⟩)
          · rcases z3 : (s == 0) with _ | _
            · (go_wp2_with fail; go_meet; exact ⟨by simp [okF, *], rfl⟩)
            · cases plain
              · (go_wp2_with fail; go_meet; exact ⟨by simp [okF, *], rfl⟩)
              · cases te
                · (go_wp2_with fail; go_meet; exact ⟨by simp [okF, *], rfl⟩)
                · (go_wp2_with fail; go_meet; exact ⟨by simp [okF, *], rfl⟩)
      case rest =>
        obtain ⟨rfl, hw⟩ := hcut
        unfold box6 at hw
        subst hw
        generalize okF 5 i s bare plain te ((nl : Int) == 0) = okb at *
        have hbel : ∀ o : Obj, Below w.heap.size w (w.alloc o) := fun o => (Below.refl _ _).alloc (Nat.le_refl _) _
        cases okb
        · have hE : Hid (E = 3) := by show E = 3; rw [hN.out]; simp
          clear hN
          go_wp2_with fail
          go_ret
          exact ⟨ret_int (by rw [hE.out]; rfl), hbel _⟩
        · by_cases l1 : 16384 < tl
          · have hE : Hid (E = 5) := by show E = 5; rw [hN.out]; simp [l1]
            clear hN
            go_wp2_with fail
            go_ret
            exact ⟨ret_int (by rw [hE.out]; rfl), hbel _⟩
          · by_cases l2 : 200 < kl
            · have hE : Hid (E = 5) := by show E = 5; rw [hN.out]; simp [l2]
              clear hN
              go_wp2_with fail
              go_ret
              exact ⟨ret_int (by rw [hE.out]; rfl), hbel _⟩
            · have hE : Hid (E = 0) := by show E = 0; rw [hN.out]; simp [l1, l2]
              clear hN
              go_wp2_with fail
              go_ret
              exact ⟨ret_int (by rw [hE.out]; rfl), hbel _⟩
set_option maxRecDepth 100000 in
set_option maxHeartbeats 6400000 in
theorem shape_k8 (n : Nd) (kl : Nat) (An Ak : Option Addr) (cn ck : Nat) (w : World) (hok : n.ok)
    (hn : okl n.names.length cn) (hkl : okl kl ck) (hr : Rd w w.heap.size 1 An n.names.length (n.names.map sv)) (hk : n.kind = 8) :
    Calls Try.prog 38 #[.agg (ncells n An cn Ak kl ck).toArray] w (Ret (.int .i64 (nerr n kl : Int)) w) := by
  unfold ncells
  have hte0 : (str n.text).toList.isEmpty = n.text.isEmpty := by rw [str_toList]
  have hsz := str_size n.text
  obtain ⟨ht1, ht2, ht3, ht4, _⟩ := hok
  obtain ⟨hn1, hn2⟩ := hn
  obtain ⟨hk1, hk2⟩ := hkl
  clear hr
  have hN : Hid (nerr n kl = if okF n.kind n.int n.scale ((n.int == 0) && (n.scale == 0)) (((n.names.length : Int) == 0) && ((kl : Int) == 0)) n.text.isEmpty ((n.names.length : Int) == 0) = false then 3 else if 16384 < n.text.length ∨ 200 < kl then 5 else if n.kind = 9 ∧ fieldsOk n.names kl = false then 3 else 0) := rfl
  generalize hE : nerr n kl = E at *
  clear hE
  generalize hfo : fieldsOk n.names kl = fo at *
  clear hfo
  generalize hnl : n.names.length = nl at *
  clear hnl
  generalize hte : n.text.isEmpty = te at *
  clear hte
  generalize htl : n.text.length = tl at *
  clear htl
  generalize hst : str n.text = t at *
  clear hst
  generalize n.int = i at *
  generalize n.scale = s at *
  generalize n.kind = kind at *
  unfold I64 at ht1 ht2 ht3
  subst hk
  go_enter Try.func38, Try.ntmps38
  go_upto_region 1 with fail
  go_cut [3] (fun s3 wx => s3 = .bool ((i == 0) && (s == 0)) ∧ wx = box6 w 8 i s t An nl cn Ak kl ck)
  case first =>
    rcases hb : (i == 0) with _ | _
    all_goals (go_wp2_with fail; go_meet; exact ⟨by simp [*], rfl⟩)
  case rest =>
    obtain ⟨rfl, hw⟩ := hcut
    unfold box6 at hw
    subst hw
    have hbare : ∃ b, ((i == 0) && (s == 0)) = b := ⟨_, rfl⟩
    obtain ⟨bare, hbare⟩ := hbare
    rw [hbare] at hN ⊢
    clear hbare
    go_upto_region 2 with fail
    go_cut [4] (fun s4 wx => s4 = .bool (((nl : Int) == 0) && ((kl : Int) == 0)) ∧ wx = box6 w 8 i s t An nl cn Ak kl ck)
    case first =>
      rcases hb : ((nl : Int) == 0) with _ | _
      all_goals (go_wp2_with fail; go_meet; exact ⟨by simp [*], rfl⟩)
    case rest =>
      obtain ⟨rfl, hw⟩ := hcut
      unfold box6 at hw
      subst hw
      have hplain : ∃ b, (((nl : Int) == 0) && ((kl : Int) == 0)) = b := ⟨_, rfl⟩
      obtain ⟨plain, hplain⟩ := hplain
      rw [hplain] at hN ⊢
      clear hplain
      go_upto_block 0 with fail
      go_cut [5] (fun s5 wx => s5 = .bool (okF 8 i s bare plain te ((nl : Int) == 0)) ∧ wx = box6 w 8 i s t An nl cn Ak kl ck)
      case first =>
        cases bare
        · (go_wp2_with fail; go_meet; exact ⟨by simp [okF, *], rfl⟩)
        · rcases z1 : ((nl : Int) == 0) with _ | _
          · (go_wp2_with fail; go_meet; exact ⟨by simp [okF, *], rfl⟩)
          · cases te
            · (go_wp2_with fail; go_meet; exact ⟨by simp [okF, *], rfl⟩)
            · (go_wp2_with fail; go_meet; exact ⟨by simp [okF, *], rfl⟩)
      case rest =>
        obtain ⟨rfl, hw⟩ := hcut
        unfold box6 at hw
        subst hw
        generalize okF 8 i s bare plain te ((nl : Int) == 0) = okb at *
        have hbel : ∀ o : Obj, Below w.heap.size w (w.alloc o) := fun o => (Below.refl _ _).alloc (Nat.le_refl _) _
        cases okb
        · have hE : Hid (E = 3) := by show E = 3; rw [hN.out]; simp
          clear hN
          go_wp2_with fail
          go_ret
          exact ⟨ret_int (by rw [hE.out]; rfl), hbel _⟩
        · by_cases l1 : 16384 < tl
          · have hE : Hid (E = 5) := by show E = 5; rw [hN.out]; simp [l1]
            clear hN
            go_wp2_with fail
            go_ret
            exact ⟨ret_int (by rw [hE.out]; rfl), hbel _⟩
          · by_cases l2 : 200 < kl
            · have hE : Hid (E = 5) := by show E = 5; rw [hN.out]; simp [l2]
              clear hN
              go_wp2_with fail
              go_ret
              exact ⟨ret_int (by rw [hE.out]; rfl), hbel _⟩
            · have hE : Hid (E = 0) := by show E = 0; rw [hN.out]; simp [l1, l2]
              clear hN
              go_wp2_with fail
              go_ret
              exact ⟨ret_int (by rw [hE.out]; rfl), hbel _⟩
end Go.Proofs.Ytfcbcbpnlnkpcaa
/- value.shape: what is wrong with a node, but for its kids: kind by kind. -/
namespace Go.Proofs.Ytfcbcbpnlnkpcaa
set_option linter.all false
open Go.RowKit
set_option maxRecDepth 100000 in
set_option maxHeartbeats 6400000 in
theorem shape_k9 (n : Nd) (kl : Nat) (An Ak : Option Addr) (cn ck : Nat) (w : World) (hok : n.ok)
    (hn : okl n.names.length cn) (hkl : okl kl ck) (hr : Rd w w.heap.size 1 An n.names.length (n.names.map sv)) (hk : n.kind = 9) :
    Calls Try.prog 38 #[.agg (ncells n An cn Ak kl ck).toArray] w (Ret (.int .i64 (nerr n kl : Int)) w) := by
  have HF : Hid (∀ W, Below w.heap.size w W → Calls Try.prog 56 #[.agg #[.int .i64 n.kind, .int .i64 n.int, .int .i64 n.scale, .string (str n.text), .slice An n.names.length cn, .slice Ak kl ck]] W (Ret (.bool (fieldsOk n.names kl)) W)) :=
    fun W hb => fields_any n kl An Ak cn ck W hn hkl ((hr.below hb).more hb.size) hok.2.2.2.2
  unfold ncells
  have hte0 : (str n.text).toList.isEmpty = n.text.isEmpty := by rw [str_toList]
  have hsz := str_size n.text
  obtain ⟨ht1, ht2, ht3, ht4, _⟩ := hok
  obtain ⟨hn1, hn2⟩ := hn
  obtain ⟨hk1, hk2⟩ := hkl
  clear hr
  have hN : Hid (nerr n kl = if okF n.kind n.int n.scale ((n.int == 0) && (n.scale == 0)) (((n.names.length : Int) == 0) && ((kl : Int) == 0)) n.text.isEmpty ((n.names.length : Int) == 0) = false then 3 else if 16384 < n.text.length ∨ 200 < kl then 5 else if n.kind = 9 ∧ fieldsOk n.names kl = false then 3 else 0) := rfl
  generalize hE : nerr n kl = E at *
  clear hE
  generalize hfo : fieldsOk n.names kl = fo at *
  clear hfo
  generalize hnl : n.names.length = nl at *
  clear hnl
  generalize hte : n.text.isEmpty = te at *
  clear hte
  generalize htl : n.text.length = tl at *
  clear htl
  generalize hst : str n.text = t at *
  clear hst
  generalize n.int = i at *
  generalize n.scale = s at *
  generalize n.kind = kind at *
  unfold I64 at ht1 ht2 ht3
  subst hk
  go_enter Try.func38, Try.ntmps38
  go_upto_region 1 with fail
  go_cut [3] (fun s3 wx => s3 = .bool ((i == 0) && (s == 0)) ∧ wx = box6 w 9 i s t An nl cn Ak kl ck)
  case first =>
    rcases hb : (i == 0) with _ | _
    all_goals (go_wp2_with fail; go_meet; exact ⟨by simp [*], rfl⟩)
  case rest =>
    obtain ⟨rfl, hw⟩ := hcut
    unfold box6 at hw
    subst hw
    have hbare : ∃ b, ((i == 0) && (s == 0)) = b := ⟨_, rfl⟩
    obtain ⟨bare, hbare⟩ := hbare
    rw [hbare] at hN ⊢
    clear hbare
    go_upto_region 2 with fail
    go_cut [4] (fun s4 wx => s4 = .bool (((nl : Int) == 0) && ((kl : Int) == 0)) ∧ wx = box6 w 9 i s t An nl cn Ak kl ck)
    case first =>
      rcases hb : ((nl : Int) == 0) with _ | _
      all_goals (go_wp2_with fail; go_meet; exact ⟨by simp [*], rfl⟩)
    case rest =>
      obtain ⟨rfl, hw⟩ := hcut
      unfold box6 at hw
      subst hw
      have hplain : ∃ b, (((nl : Int) == 0) && ((kl : Int) == 0)) = b := ⟨_, rfl⟩
      obtain ⟨plain, hplain⟩ := hplain
      rw [hplain] at hN ⊢
      clear hplain
      go_upto_block 0 with fail
      go_cut [5] (fun s5 wx => s5 = .bool (okF 9 i s bare plain te ((nl : Int) == 0)) ∧ wx = box6 w 9 i s t An nl cn Ak kl ck)
      case first =>
        cases bare
        · (go_wp2_with fail; go_meet; exact ⟨by simp [okF, *], rfl⟩)
        · cases te
          · (go_wp2_with fail; go_meet; exact ⟨by simp [okF, *], rfl⟩)
          · (go_wp2_with fail; go_meet; exact ⟨by simp [okF, *], rfl⟩)
      case rest =>
        obtain ⟨rfl, hw⟩ := hcut
        unfold box6 at hw
        subst hw
        generalize okF 9 i s bare plain te ((nl : Int) == 0) = okb at *
        have hbel : ∀ o : Obj, Below w.heap.size w (w.alloc o) := fun o => (Below.refl _ _).alloc (Nat.le_refl _) _
        cases okb
        · have hE : Hid (E = 3) := by show E = 3; rw [hN.out]; simp
          clear hN
          go_wp2_with fail
          go_ret
          exact ⟨ret_int (by rw [hE.out]; rfl), hbel _⟩
        · by_cases l1 : 16384 < tl
          · have hE : Hid (E = 5) := by show E = 5; rw [hN.out]; simp [l1]
            clear hN
            go_wp2_with fail
            go_ret
            exact ⟨ret_int (by rw [hE.out]; rfl), hbel _⟩
          · by_cases l2 : 200 < kl
            · have hE : Hid (E = 5) := by show E = 5; rw [hN.out]; simp [l2]
              clear hN
              go_wp2_with fail
              go_ret
              exact ⟨ret_int (by rw [hE.out]; rfl), hbel _⟩
            · cases fo
              · have hE : Hid (E = 3) := by show E = 3; rw [hN.out]; simp [l1, l2]
                clear hN
                go_wp2_with fail
                refine (HF.out _ (hbel _)).mono ?_
                rintro e w1 ⟨rfl, b1⟩
                go_wp2_with fail
                go_ret
                exact ⟨ret_int (by rw [hE.out]; rfl), (hbel _).trans (b1.mono (by simp))⟩
              · have hE : Hid (E = 0) := by show E = 0; rw [hN.out]; simp [l1, l2]
                clear hN
                go_wp2_with fail
                refine (HF.out _ (hbel _)).mono ?_
                rintro e w1 ⟨rfl, b1⟩
                go_wp2_with fail
                go_ret
                exact ⟨ret_int (by rw [hE.out]; rfl), (hbel _).trans (b1.mono (by simp))⟩
set_option maxRecDepth 100000 in
set_option maxHeartbeats 6400000 in
theorem shape_k0 (n : Nd) (kl : Nat) (An Ak : Option Addr) (cn ck : Nat) (w : World) (hok : n.ok)
    (hn : okl n.names.length cn) (hkl : okl kl ck) (hr : Rd w w.heap.size 1 An n.names.length (n.names.map sv)) (hk : ∀ c : Int, 1 ≤ c → c ≤ 9 → n.kind ≠ c) :
    Calls Try.prog 38 #[.agg (ncells n An cn Ak kl ck).toArray] w (Ret (.int .i64 (nerr n kl : Int)) w) := by
  unfold ncells
  have hte0 : (str n.text).toList.isEmpty = n.text.isEmpty := by rw [str_toList]
  have hsz := str_size n.text
  obtain ⟨ht1, ht2, ht3, ht4, _⟩ := hok
  obtain ⟨hn1, hn2⟩ := hn
  obtain ⟨hk1, hk2⟩ := hkl
  clear hr
  have hN : Hid (nerr n kl = if okF n.kind n.int n.scale ((n.int == 0) && (n.scale == 0)) (((n.names.length : Int) == 0) && ((kl : Int) == 0)) n.text.isEmpty ((n.names.length : Int) == 0) = false then 3 else if 16384 < n.text.length ∨ 200 < kl then 5 else if n.kind = 9 ∧ fieldsOk n.names kl = false then 3 else 0) := rfl
  generalize hE : nerr n kl = E at *
  clear hE
  generalize hfo : fieldsOk n.names kl = fo at *
  clear hfo
  generalize hnl : n.names.length = nl at *
  clear hnl
  generalize hte : n.text.isEmpty = te at *
  clear hte
  generalize htl : n.text.length = tl at *
  clear htl
  generalize hst : str n.text = t at *
  clear hst
  generalize n.int = i at *
  generalize n.scale = s at *
  generalize n.kind = kind at *
  unfold I64 at ht1 ht2 ht3
  have k1 : (kind == 1) = false := by simpa using hk 1 (by omega) (by omega)
  have k2 : (kind == 2) = false := by simpa using hk 2 (by omega) (by omega)
  have k3 : (kind == 3) = false := by simpa using hk 3 (by omega) (by omega)
  have k4 : (kind == 4) = false := by simpa using hk 4 (by omega) (by omega)
  have k5 : (kind == 5) = false := by simpa using hk 5 (by omega) (by omega)
  have k6 : (kind == 6) = false := by simpa using hk 6 (by omega) (by omega)
  have k7 : (kind == 7) = false := by simpa using hk 7 (by omega) (by omega)
  have k8 : (kind == 8) = false := by simpa using hk 8 (by omega) (by omega)
  have k9 : (kind == 9) = false := by simpa using hk 9 (by omega) (by omega)
  have HK : ∀ bare plain : Bool, okF kind i s bare plain te ((nl : Int) == 0) = false := by
    intro bare plain
    simp [okF, hk 1 (by omega) (by omega), hk 2 (by omega) (by omega), hk 3 (by omega) (by omega), hk 4 (by omega) (by omega), hk 5 (by omega) (by omega), hk 6 (by omega) (by omega), hk 7 (by omega) (by omega), hk 8 (by omega) (by omega), hk 9 (by omega) (by omega)]
  have HKK := Lib.hid HK
  clear HK
  go_enter Try.func38, Try.ntmps38
  go_upto_region 1 with fail
  go_cut [3] (fun s3 wx => s3 = .bool ((i == 0) && (s == 0)) ∧ wx = box6 w kind i s t An nl cn Ak kl ck)
  case first =>
    rcases hb : (i == 0) with _ | _
    all_goals (go_wp2_with fail; go_meet; exact ⟨by simp [*], rfl⟩)
  case rest =>
    obtain ⟨rfl, hw⟩ := hcut
    unfold box6 at hw
    subst hw
    have hbare : ∃ b, ((i == 0) && (s == 0)) = b := ⟨_, rfl⟩
    obtain ⟨bare, hbare⟩ := hbare
    rw [hbare] at hN ⊢
    clear hbare
    go_upto_region 2 with fail
    go_cut [4] (fun s4 wx => s4 = .bool (((nl : Int) == 0) && ((kl : Int) == 0)) ∧ wx = box6 w kind i s t An nl cn Ak kl ck)
    case first =>
      rcases hb : ((nl : Int) == 0) with _ | _
      all_goals (go_wp2_with fail; go_meet; exact ⟨by simp [*], rfl⟩)
    case rest =>
      obtain ⟨rfl, hw⟩ := hcut
      unfold box6 at hw
      subst hw
      have hplain : ∃ b, (((nl : Int) == 0) && ((kl : Int) == 0)) = b := ⟨_, rfl⟩
      obtain ⟨plain, hplain⟩ := hplain
      rw [hplain] at hN ⊢
      clear hplain
      go_upto_block 0 with fail
      go_cut [5] (fun s5 wx => s5 = .bool (okF kind i s bare plain te ((nl : Int) == 0)) ∧ wx = box6 w kind i s t An nl cn Ak kl ck)
      case first =>
        go_wp2_with fail
        go_meet
        exact ⟨by rw [HKK.out], rfl⟩
      case rest =>
        obtain ⟨rfl, hw⟩ := hcut
        unfold box6 at hw
        subst hw
        generalize okF kind i s bare plain te ((nl : Int) == 0) = okb at *
        have hbel : ∀ o : Obj, Below w.heap.size w (w.alloc o) := fun o => (Below.refl _ _).alloc (Nat.le_refl _) _
        cases okb
        · have hE : Hid (E = 3) := by show E = 3; rw [hN.out]; simp
          clear hN
          go_wp2_with fail
          go_ret
          exact ⟨ret_int (by rw [hE.out]; rfl), hbel _⟩
        · by_cases l1 : 16384 < tl
          · have hE : Hid (E = 5) := by show E = 5; rw [hN.out]; simp [l1]
            clear hN
            go_wp2_with fail
            go_ret
            exact ⟨ret_int (by rw [hE.out]; rfl), hbel _⟩
          · by_cases l2 : 200 < kl
            · have hE : Hid (E = 5) := by show E = 5; rw [hN.out]; simp [l2]
              clear hN
              go_wp2_with fail
              go_ret
              exact ⟨ret_int (by rw [hE.out]; rfl), hbel _⟩
            · have hE : Hid (E = 0) := by show E = 0; rw [hN.out]; simp [l1, l2, show ¬ kind = 9 from hk 9 (by omega) (by omega)]
              clear hN
              go_wp2_with fail
              go_ret
              exact ⟨ret_int (by rw [hE.out]; rfl), hbel _⟩
end Go.Proofs.Ytfcbcbpnlnkpcaa
