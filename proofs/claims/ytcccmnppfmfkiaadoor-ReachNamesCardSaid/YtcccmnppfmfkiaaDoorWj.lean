/-
  Walks: reach.Calls, From, Useless, Self.
-/
import Derived.Test.YtcccmnppfmfkiaaDoorWi
import Derived.Test.YtcccmnppfmfkiaaDoorP4
set_option linter.unusedVariables false
set_option linter.unusedSimpArgs false
namespace Go.V
open Go Go.Proofs

def rw0 : Rw := ⟨none, 0, 0, []⟩
theorem rw0_ok (I : GH) : rw0.ok I := ⟨⟨rfl, ⟨Nat.le_refl _, by simp [rw0]⟩, .inl rfl⟩⟩
def inR (i : Int) (n : Nat) : Bool := !decide (i < 0) && !decide ((n : Int) ≤ i)
def callsG (deb : List Int) (g : Gr) (i : Int) : List Int := bif inR i g.n && decide (mayG deb g = 0) then (callsL g).getD i.toNat [] else []
def fromG (deb : List Int) (g : Gr) (i : Int) : List Int := bif inR i g.n && decide (mayG deb g = 0) then listL true 0 (fromL (callsL g) i.toNat) else []
def uselessG (deb : List Int) (g : Gr) : List Int := bif decide (mayG deb g = 0) && !decide ((g.n : Int) = 0) then listL false 0 (fromL (callsL g) 0) else []

theorem Calls_spec {I : GH} {deb : List Int} (hT : Tabs I deb) {g : Gr} (hg : g.ok I) (hn : g.n ≤ 1099511627776) (i : Int) : Spec Tryd.prog 14 [g.val, .int .i64 i] I [] fun v I' M' => (∀ b o, I b = some o → I' b = some o) ∧ ∃ x : Rw, v = x.val ∧ x.ok I' ∧ x.l = callsG deb g i ∧ M' = [] := by
  refine spec_of_V [] TrydEOK Tryd.func14 rfl rfl rfl ?_
  intro B h0
  have hgn := hg.n
  refine GuardOb.mk (fun h1 => ?_) (fun h1 => ?_)
  · refine GuardOb.mk (fun h2 => ?_) (fun h2 => ?_)
    · have hin : inR i g.n = true := by
        have h2' : decide ((g.n : Int) ≤ i) = false := h2
        rw [inR, h1, h2']
        rfl
      refine CallOb.mk [] [] _ (.refl _) (May_spec hT hg) ?_
      rintro v I1 M1 - ⟨rfl, hI1, rfl⟩
      refine CondOb.mk (fun h3 => ?_) (fun h3 => ?_)
      · refine ⟨_, _, .refl, hI1, rw0, rfl, rw0_ok _, ?_, rfl⟩
        have h3' : decide (mayG deb g = 0) = false := by simpa using h3
        rw [callsG, hin, h3']
        rfl
      · have hm : decide (mayG deb g = 0) = true := by simpa using h3
        have hi0 : 0 ≤ i := by simpa using h1
        have hi1 : i < g.n := by simpa using h2
        have hl' : i.toNat < g.ds.length := by omega
        have hg1 := hg.mono hI1
        obtain ⟨ad, had, hrd⟩ := hg1.rs.row Df.cells_len (j := i.toNat) (by omega) hl'
        have hdm : g.ds[i.toNat] ∈ g.ds := List.getElem_mem hl'
        refine CodeOb.draw TrydEOK rfl rfl rfl ?_
        refine IdxOb.mk ad i.toNat had (by omega) (by omega) ?_
        refine LoadOb.mk _ (Rd.part (k := 1) (m := 2) (hrd _) (by decide)) ?_
        refine CallOb.mk [] [] _ (.refl _) (called_spec hg1 hn (hg1.ds _ hdm).t) ?_
        rintro v I2 M2 - ⟨hI2, x, rfl, hx, hxl, rfl⟩
        refine ⟨_, _, .refl, fun b o h => hI2 _ _ (hI1 _ _ h), x, rfl, hx, ?_, rfl⟩
        rw [callsG, hin, hm, hxl]
        simp [callsL, List.getD_eq_getElem?_getD, hl']
    · refine ⟨_, _, .refl, fun _ _ h => h, rw0, rfl, rw0_ok _, ?_, rfl⟩
      have h2' : decide ((g.n : Int) ≤ i) = true := h2
      rw [callsG, inR, h1, h2']
      rfl
  · refine ⟨_, _, .refl, fun _ _ h => h, rw0, rfl, rw0_ok _, ?_, rfl⟩
    rw [callsG, inR, h1]
    rfl

theorem callsL_len {g : Gr} (hn : g.ds.length = g.n) : (callsL g).length = g.n := by simp [callsL, hn]
theorem from_len {L : List (List Int)} (hL : ∀ l ∈ L, valid L.length l) {i : Nat} (hi : i < L.length) : (fromL L i).length = L.length := (fromL_ok hL hi).len

theorem From_spec {I : GH} {deb : List Int} (hT : Tabs I deb) {g : Gr} (hg : g.ok I) (hn : g.n ≤ 1099511627776) (i : Int) : Spec Tryd.prog 16 [g.val, .int .i64 i] I [] fun v I' M' => (∀ b o, I b = some o → I' b = some o) ∧ ∃ x : Rw, v = x.val ∧ x.ok I' ∧ x.l = fromG deb g i ∧ M' = [] := by
  refine spec_of_V [] TrydEOK Tryd.func16 rfl rfl rfl ?_
  intro B h0
  have hgn := hg.n
  refine CallOb.mk [] [] _ (.refl _) (calls_spec hT hg hn) ?_
  rintro v I1 M1 - ⟨hI1, rfl, ⟨hm, rfl⟩ | ⟨hm, x, rfl, hx, hxl⟩⟩
  · refine GuardOb.mk (fun h => by cases h) (fun _ => ?_)
    refine ⟨_, _, .refl, hI1, rw0, rfl, rw0_ok _, ?_, rfl⟩
    have h3' : decide (mayG deb g = 0) = false := by simpa using hm
    rw [fromG, h3', Bool.and_false]
    rfl
  · have h3' : decide (mayG deb g = 0) = true := by simpa using hm
    have hxn : x.n = g.n := by
      have h1 := hx.n
      have h2 := congrArg List.length hxl
      simp only [Ls.ll, List.length_map, callsL] at h2
      omega
    have hv : ∀ l ∈ x.ll, valid x.ll.length l := by rw [hxl]; exact callsL_valid hgn
    refine GuardOb.mk (fun _ => ?_) (fun h => by cases h)
    refine GuardOb.mk (fun h1 => ?_) (fun h1 => ?_)
    · refine CondOb.mk (fun h2 => ?_) (fun h2 => ?_)
      · refine ⟨_, _, .refl, hI1, rw0, rfl, rw0_ok _, ?_, rfl⟩
        have h2' : decide ((g.n : Int) ≤ i) = true := by rw [← hxn]; exact h2
        rw [fromG, inR, h1, h2']
        rfl
      · have h2' : decide ((g.n : Int) ≤ i) = false := by rw [← hxn]; exact h2
        have hi0 : 0 ≤ i := by simpa using h1
        have hi1 : i < g.n := by simpa using h2'
        obtain ⟨j, rfl⟩ := Int.eq_ofNat_of_zero_le hi0
        refine CallOb.mk [] [] _ (.refl _) (from_spec hx (by omega) hv (i := j) (by omega)) ?_
        rintro v I2 M2 - ⟨hI2, r, rfl, hr, hrl, rfl⟩
        have hrn : r.n = g.n := by
          have h1 := hr.n
          rw [hrl, from_len hv (by rw [hxl, callsL_len hgn]; omega), hxl, callsL_len hgn] at h1
          exact h1.symm
        refine CallOb.mk [] [] _ (.refl _) (list_spec hr (by omega) true) ?_
        rintro v I3 M3 - ⟨hI3, y, rfl, hy, hyl, rfl⟩
        refine ⟨_, _, .refl, fun b o h => hI3 _ _ (hI2 _ _ (hI1 _ _ h)), y, rfl, hy, ?_, rfl⟩
        rw [fromG, inR, h1, h2', h3', hyl, hrl, hxl]
        rfl
    · refine ⟨_, _, .refl, hI1, rw0, rfl, rw0_ok _, ?_, rfl⟩
      rw [fromG, inR, h1]
      rfl

theorem Useless_spec {I : GH} {deb : List Int} (hT : Tabs I deb) {g : Gr} (hg : g.ok I) (hn : g.n ≤ 1099511627776) : Spec Tryd.prog 17 [g.val] I [] fun v I' M' => (∀ b o, I b = some o → I' b = some o) ∧ ∃ x : Rw, v = x.val ∧ x.ok I' ∧ x.l = uselessG deb g ∧ M' = [] := by
  refine spec_of_V [] TrydEOK Tryd.func17 rfl rfl rfl ?_
  intro B h0
  have hgn := hg.n
  refine CallOb.mk [] [] _ (.refl _) (calls_spec hT hg hn) ?_
  rintro v I1 M1 - ⟨hI1, rfl, ⟨hm, rfl⟩ | ⟨hm, x, rfl, hx, hxl⟩⟩
  · refine GuardOb.mk (fun h => by cases h) (fun _ => ?_)
    refine ⟨_, _, .refl, hI1, rw0, rfl, rw0_ok _, ?_, rfl⟩
    have h3' : decide (mayG deb g = 0) = false := by simpa using hm
    rw [uselessG, h3']
    rfl
  · have h3' : decide (mayG deb g = 0) = true := by simpa using hm
    have hxn : x.n = g.n := by
      have h1 := hx.n
      have h2 := congrArg List.length hxl
      simp only [Ls.ll, List.length_map, callsL] at h2
      omega
    have hv : ∀ l ∈ x.ll, valid x.ll.length l := by rw [hxl]; exact callsL_valid hgn
    refine GuardOb.mk (fun _ => ?_) (fun h => by cases h)
    refine CondOb.mk (fun h2 => ?_) (fun h2 => ?_)
    · refine ⟨_, _, .refl, hI1, rw0, rfl, rw0_ok _, ?_, rfl⟩
      have h2' : decide ((g.n : Int) = 0) = true := by rw [← hxn]; exact h2
      rw [uselessG, h2', h3']
      rfl
    · have h2' : decide ((g.n : Int) = 0) = false := by rw [← hxn]; exact h2
      have hpos : g.n ≠ 0 := by simp at h2'; omega
      refine CallOb.mk [] [] _ (.refl _) (from_spec hx (by omega) hv (i := 0) (by omega)) ?_
      rintro v I2 M2 - ⟨hI2, r, rfl, hr, hrl, rfl⟩
      have hrn : r.n = g.n := by
        have h1 := hr.n
        rw [hrl, from_len hv (by rw [hxl, callsL_len hgn]; omega), hxl, callsL_len hgn] at h1
        exact h1.symm
      refine CallOb.mk [] [] _ (.refl _) (list_spec hr (by omega) false) ?_
      rintro v I3 M3 - ⟨hI3, y, rfl, hy, hyl, rfl⟩
      refine ⟨_, _, .refl, fun b o h => hI3 _ _ (hI2 _ _ (hI1 _ _ h)), y, rfl, hy, ?_, rfl⟩
      rw [uselessG, h2', h3', hyl, hrl, hxl]
      rfl
end Go.V
