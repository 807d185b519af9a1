/-
  list.Space.Ahead, and gradineref10.Place. No condition but that the space lies in memory, and that the slice reads.
-/
import Derived.Test.YtibcfmnkpemieaaDo10
namespace Go.Proofs.Ytibcfmnkpemieaa
open Go.RowKit

theorem ofI_true {Ls : List (List Nat)} {b x : Int} (h : ofI Ls b = (x, true)) : ∃ k l : Nat, b = k ∧ k < 64 ∧ x = l ∧ ofL Ls k = some l := by
  unfold ofI at h
  split at h
  · rename_i hb
    split at h
    · rename_i l hl
      simp at h
      exact ⟨b.toNat, l, by have := hb.1; omega, by have := hb.2; have := hb.1; omega, h.symm, hl⟩
    · simp at h
  · simp at h

/-- what stands ahead of a block in its list -/
def preL (L : List Nat) (b : Nat) : List Nat := L.takeWhile (· ≠ b)
theorem pre_split {L : List Nat} {b : Nat} (h : b ∈ L) : ∃ T, L = preL L b ++ b :: T ∧ b ∉ preL L b := by
  unfold preL
  induction L with
  | nil => cases h
  | cons x t ih =>
    by_cases e : x = b
    · subst e; exact ⟨t, by simp, by simp⟩
    · have ht : b ∈ t := by
        rcases List.mem_cons.1 h with h | h
        · exact absurd h.symm e
        · exact h
      obtain ⟨T, h1, h2⟩ := ih ht
      refine ⟨T, ?_, ?_⟩
      · simp [e]; simpa using h1
      · simp [e]
        refine ⟨fun h => e h.symm, by simpa using h2⟩
theorem pre_at {P T : List Nat} {x : Nat} (h : x ∉ P) : preL (P ++ x :: T) x = P := by
  unfold preL
  induction P with
  | nil => simp
  | cons y t ih =>
    have hy : ¬ y = x := fun e => h (by simp [e])
    simp [hy]
    simpa using ih (fun hm => h (List.mem_cons_of_mem _ hm))

/-- the answer of Ahead -/
def ahdI (Ls : List (List Nat)) (a b : Int) : Bool :=
  (ofI Ls a).2 && (ofI Ls b).2 && decide ((ofI Ls a).1 = (ofI Ls b).1) && decide (a.toNat ∈ preL (Ls.getD (ofI Ls b).1.toNat []) b.toNat)

theorem ofL_in {Ls : List (List Nat)} {b i : Nat} (h : ofL Ls b = some i) : i < Ls.length ∧ b ∈ Ls.getD i [] := by
  unfold ofL at h
  rw [List.find?_range_eq_some] at h
  exact ⟨by simpa using h.2.1, by simpa using h.1⟩

set_option maxHeartbeats 1000000 in
theorem ahead_any (bs be : Nat) (Ls : List (List Nat)) (a b : Int) (w : World) (h : SpaceAt w bs be Ls) :
    Calls Try.prog 74 #[.pointer (some ⟨bs, 0, none⟩), .int .i64 a, .int .i64 b] w fun e w' => e = .returned (.bool (ahdI Ls a b)) ∧ w = w' := by
  obtain ⟨x, ia, hA⟩ : ∃ x ia, ofI Ls a = (x, ia) := ⟨_, _, rfl⟩
  obtain ⟨y, ib, hB⟩ : ∃ y ib, ofI Ls b = (y, ib) := ⟨_, _, rfl⟩
  obtain ⟨r, hr⟩ : ∃ r, ahdI Ls a b = r := ⟨_, rfl⟩
  rw [hr]
  have hr' : (ia && ib && decide (x = y) && decide (a.toNat ∈ preL (Ls.getD y.toNat []) b.toNat)) = r := by rw [← hr]; unfold ahdI; rw [hA, hB]
  have HA := Lib.hid hA
  have HB := Lib.hid hB
  have H := Lib.hid h
  clear hr hA hB
  cases ia
  · have hrf : r = false := by rw [← hr']; simp
    subst hrf
    clear hr' h
    go_enter Try.func74, Try.ntmps74
    go_wp2_with fail
    refine (of_any bs be Ls a _ H.out).mono ?_
    rintro e w1 ⟨rfl, rfl⟩
    rw [HA.out]
    go_wp2_with fail
    refine (of_any bs be Ls b _ H.out).mono ?_
    rintro e w1 ⟨rfl, rfl⟩
    rw [HB.out]
    go_wp2_with fail
    go_ret
    exact ⟨rfl, rfl⟩
  · cases ib
    · have hrf : r = false := by rw [← hr']; simp
      subst hrf
      clear hr' h
      go_enter Try.func74, Try.ntmps74
      go_wp2_with fail
      refine (of_any bs be Ls a _ H.out).mono ?_
      rintro e w1 ⟨rfl, rfl⟩
      rw [HA.out]
      go_wp2_with fail
      refine (of_any bs be Ls b _ H.out).mono ?_
      rintro e w1 ⟨rfl, rfl⟩
      rw [HB.out]
      go_wp2_with fail
      go_ret
      exact ⟨rfl, rfl⟩
    · by_cases hxy : x = y
      · obtain ⟨ka, la, rfl, hka, hxl, hofa⟩ := ofI_true HA.out
        obtain ⟨kb, lb, rfl, hkb, hyl, hofb⟩ := ofI_true HB.out
        obtain ⟨A, E, h1, h2⟩ := h
        obtain ⟨hll, hmb⟩ := ofL_in hofb
        obtain ⟨L, hL⟩ : ∃ L, Ls.getD lb [] = L := ⟨_, rfl⟩
        have hseg := h2.seg lb hll
        have hnd := h2.nodup lb hll
        rw [hL] at hmb hseg hnd
        obtain ⟨T, hPT, hbn⟩ := pre_split hmb
        obtain ⟨P, hP⟩ : ∃ P, preL L kb = P := ⟨_, rfl⟩
        rw [hP] at hPT hbn
        have hrp : decide (ka ∈ P) = r := by rw [← hr', hxy, hyl, ← hP, ← hL]; simp
        have hat : ∀ P' z T', L = P' ++ z :: T' → A z 1 = lst (-1) P' := by
          intro P' z T' he
          rw [he] at hseg
          exact ((seg_append A lb P' (z :: T') (-1) (-1)).1 hseg).2.2.2.1
        have hl64 : ∀ z ∈ L, z < 64 := fun z hz => (seg_lt hseg z hz).1
        have hnode : ∀ z, z < 64 → w.cell? ⟨bs, z * 3 + 1, none⟩ = some (.int .i64 (A z 1)) := fun z hz => h1.node hz (by omega)
        have e1 := hnode kb hkb
        rw [hat P kb T hPT] at e1
        have HAT := Lib.hid hat
        have HL64 := Lib.hid hl64
        have HN := Lib.hid hnode
        have HPT := Lib.hid hPT
        have HND := Lib.hid hnd
        have HRP := Lib.hid hrp
        have hkb' : (kb : Int) < 64 := by omega
        clear hr' hofa hofb hll hmb hseg hnd hL hP hPT hbn hrp hat hl64 hnode h1 h2 hxl hyl
        go_enter Try.func74, Try.ntmps74
        go_wp2_with fail
        refine (of_any bs be Ls ka _ H.out).mono ?_
        rintro e w1 ⟨rfl, rfl⟩
        rw [HA.out]
        go_wp2_with fail
        refine (of_any bs be Ls kb _ H.out).mono ?_
        rintro e w1 ⟨rfl, rfl⟩
        rw [HB.out]
        subst hxy
        go_wp2_with fail
        go_loopw [2] (fun cv wr => ∃ P' Q : List Nat, P = P' ++ Q ∧ ka ∉ Q ∧ cv = .int .i64 (lst (-1) P') ∧ wr = w) (fun cv _ => if intOf cv < 0 then 0 else (preL L (intOf cv).toNat).length + 1)
        case atStart => exact ⟨P, [], by simp, by simp, rfl, rfl⟩
        case round =>
          obtain ⟨P', Q, hPQ, hQ, rfl, rfl⟩ := hrel
          rcases lst_nat P' (-1) with ⟨rfl, hl⟩ | ⟨P2, z, rfl, hl⟩
          · rw [hl]
            have hrf : r = false := by rw [← HRP.out, hPQ]; simpa using hQ
            subst hrf
            clear hPQ hQ hl
            go_wp2_with fail
            go_ret
            exact ⟨rfl, rfl⟩
          · rw [hl]
            have hLz : L = P2 ++ z :: (Q ++ kb :: T) := by rw [HPT.out, hPQ]; simp
            have hz64 : z < 64 := HL64.out z (by rw [hLz]; simp)
            have ez := HN.out z hz64
            rw [HAT.out P2 z _ hLz] at ez
            have hzP2 : z ∉ P2 := by
              have := HND.out
              rw [hLz] at this
              intro hm
              exact (List.nodup_append.1 this).2.2 z hm z (by simp) rfl
            have hpre : preL L z = P2 := by rw [hLz]; exact pre_at hzP2
            have HPRE := Lib.hid hpre
            have HPQ := Lib.hid hPQ
            have HQ := Lib.hid hQ
            have HLZ := Lib.hid hLz
            have hzi : (z : Int) < 64 := by omega
            have hz1 : ((z : Int) == -1) = false := by simp <;> omega
            have hz1' : ((z : Int) != -1) = true := by simp <;> omega
            clear hPQ hQ hl hLz hpre hzP2
            by_cases hza : z = ka
            · subst hza
              have hrt : r = true := by rw [← HRP.out, HPQ.out]; simp
              subst hrt
              go_wp2_with fail
              go_ret
              exact ⟨rfl, rfl⟩
            · have hzb : ((z : Int) == (ka : Int)) = false := by simp <;> omega
              go_wp2_with fail
              go_roundw
              case rel => exact ⟨P2, z :: Q, by rw [HPQ.out]; simp, by have := HQ.out; simp; exact ⟨fun e => hza e.symm, this⟩, rfl, trivial⟩
              case measure =>
                simp only [intOf]
                show (if lst (-1) P2 < 0 then 0 else (preL L (lst (-1) P2).toNat).length + 1) < (if (z : Int) < 0 then 0 else (preL L ((z : Int)).toNat).length + 1)
                rw [if_neg (show ¬ ((z : Int) < 0) by omega), Int.toNat_natCast, HPRE.out]
                rcases lst_nat P2 (-1) with ⟨rfl, hl⟩ | ⟨P3, u, rfl, hl⟩
                · rw [hl]; simp
                · rw [hl, if_neg (show ¬ ((u : Int) < 0) by omega), Int.toNat_natCast]
                  have hLu : L = P3 ++ u :: (z :: Q ++ kb :: T) := by rw [HLZ.out]; simp
                  have huP3 : u ∉ P3 := by
                    have := HND.out
                    rw [hLu] at this
                    intro hm
                    exact (List.nodup_append.1 this).2.2 u hm u (by simp) rfl
                  rw [hLu, pre_at huP3]
                  simp
      · have hrf : r = false := by rw [← hr']; simp [hxy]
        subst hrf
        have hxb : (x != y) = true := by simpa using hxy
        clear hr' h hxy
        go_enter Try.func74, Try.ntmps74
        go_wp2_with fail
        refine (of_any bs be Ls a _ H.out).mono ?_
        rintro e w1 ⟨rfl, rfl⟩
        rw [HA.out]
        go_wp2_with fail
        refine (of_any bs be Ls b _ H.out).mono ?_
        rintro e w1 ⟨rfl, rfl⟩
        rw [HB.out]
        go_wp2_with fail
        go_ret
        exact ⟨rfl, rfl⟩
end Go.Proofs.Ytibcfmnkpemieaa
