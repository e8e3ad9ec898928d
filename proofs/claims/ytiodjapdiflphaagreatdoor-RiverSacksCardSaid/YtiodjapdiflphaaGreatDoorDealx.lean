/- Deal, Deals. -/
import Derived.Test.YtiodjapdiflphaaGreatDoorDealm
namespace Go.Proofs.YtiodjapdiflphaaGreatDoor
open Go.RowKit
/-! ### Deal -/
theorem deal_all (b : Book) (l : List Licence) (all : List Take) (rv lv tv : Value) (w0 : World) (bb lb tb yb cb ly B0 : Nat) (Jx : World → Prop) (hB : BookB b) (hrv : RiversAt w0 rv b.rivers) (hlv : RowOf licC w0 lv l) (htv : RowOf takC w0 tv all) (hlB : ∀ x, x ∈ l → LicB b x) (htB : ∀ t, t ∈ all → TakB b t) (hal : all.length ≤ 6) (hll : l.length ≤ 4) :
  ∀ (rest : List Take), (∀ t, t ∈ rest → t ∈ all) → DealCall b l all rv lv tv w0 bb lb tb yb cb ly B0 Jx rest
 | [], _ => by
  obtain ⟨ta, tc, rfl, _⟩ := RowAt.open htv
  exact deal_zero b l all rv lv ta tc w0 bb lb tb yb cb ly B0 Jx
 | t :: rest, hin => by
  have ht := htB t (hin t (List.mem_cons_self ..))
  obtain ⟨r, lo, hi, he, h1, h2, h3⟩ := ht.nat
  have hm := ht.m
  rw [he]
  rw [he] at hm
  exact deal_node b l all rest rv lv tv w0 bb lb tb yb cb ly B0 Jx r lo hi t.many hB hrv hlv htv hlB h1 h2 h3 hm hal hll (deal_all b l all rv lv tv w0 bb lb tb yb cb ly B0 Jx hB hrv hlv htv hlB htB hal hll rest (fun x hx => hin x (List.mem_cons_of_mem _ hx)))
theorem Deal_any (bv lv tv : Value) (b : Book) (l : List Licence) (ts : List Take) (w : World) (hb : BookAt w bv b) (hl : RowOf licC w lv l) (ht : RowOf takC w tv ts) : Calls Tryz.prog 28 #[bv, lv, tv] w (DealRes b l ts w) := by
 refine Deal_of bv lv tv b l ts w hb hl ht ?_
 rintro rv w1 rfl hx harg
 unfold dealArg at harg
 simp only [Bool.and_eq_true] at harg
 obtain ⟨⟨hb1, hl1⟩, ht1⟩ := harg
 obtain ⟨_, e, hr⟩ := hb
 cases e
 obtain ⟨l1, l2⟩ := licencesB_of hl1
 obtain ⟨t1, t2⟩ := takesB_of ht1
 obtain ⟨la, lc, hlv, _⟩ := RowAt.open hl
 exact deals_iter b l ts rv lv tv w1 ⟨la, lc, hlv⟩ l1 (fun bb lb tb yb cb ly B0 Jx _ => deal_all b l ts rv lv tv w1 bb lb tb yb cb ly B0 Jx (bookB_of hb1) (hr.ext hx) (RowOf.ext hl hx) (RowOf.ext ht hx) l2 t2 t1 l1 ts (fun _ h => h))
theorem TakB.nat2 {b : Book} {t : Take} (h : TakB b t) : ∃ (r lo hi : Nat) (m : Int), t = ⟨r, lo, hi, m⟩ ∧ r < b.rivers.length ∧ (hi : Int) < b.years ∧ lo ≤ hi ∧ 0 ≤ m ∧ m ≤ 100 := by
 obtain ⟨r, lo, hi, he, h1, h2, h3⟩ := h.nat
 exact ⟨r, lo, hi, t.many, he, h1, h2, h3, h.m.1, h.m.2⟩
end Go.Proofs.YtiodjapdiflphaaGreatDoor
