/- The library's functions that the program calls, as the shelf's contracts ask for them: the numbers of functions and types, field by field. -/
import Derived.Shelf.SlLaysF
import Derived.Test.YtokananogogjaaaGreatDoorProg
import Derived.Test.YtokananogogjaaaGreatDoorOm
import Derived.Test.YtokananogogjaaaGreatDoorOs
import Derived.Test.YtokananogogjaaaGreatDoorOco
import Derived.Shelf.SlSortCmp.Insertion
import Derived.Test.YtokananogogjaaaGreatDoorOaq
import Derived.Test.YtokananogogjaaaGreatDoorOpm
import Derived.Scope
namespace Go.Proofs.YtokananogogjaaaGreatDoor
open Go.Shelf

def Tryz.insS_ren : Go.Shelf.Ren := ⟨fun | 20 => 153 | n => n, fun | 24 => 3 | 22 => 42 | 3 => 3 | 25 => 151 | 4 => 4 | 0 => 0 | n => n, fun | n => n⟩
theorem Tryz.insS : Go.Proofs.SlLaysF.n20 Tryz.prog Tryz.insS_ren := {
 mixed := by kernel_rfl
 f20 := ⟨Tryz.f153.name, by decide, Tryz.func153.trans (congrArg some (by kernel_rfl))⟩
 t0 := Tryz.underlying0
 a0 := Tryz.isAgg0
 z0 := Tryz.sizeOf0
 v0 := Tryz.zeroValue0
 t3 := Tryz.underlying3
 a3 := Tryz.isAgg3
 z3 := Tryz.sizeOf3
 v3 := Tryz.zeroValue3
 t4 := Tryz.underlying4
 a4 := Tryz.isAgg4
 z4 := Tryz.sizeOf4
 v4 := Tryz.zeroValue4
 t22 := Tryz.underlying42
 a22 := Tryz.isAgg42
 z22 := Tryz.sizeOf42
 v22 := Tryz.zeroValue42
 a24 := Tryz.isAgg3
 z24 := Tryz.sizeOf3
 t25 := Tryz.underlying151
 a25 := Tryz.isAgg151
 z25 := Tryz.sizeOf151
 v25 := Tryz.zeroValue151 }

end Go.Proofs.YtokananogogjaaaGreatDoor

/- The order of sellers: Reverse, SortStableFunc at a few. -/
namespace Go.Proofs.YtokananogogjaaaGreatDoor
open Go.RowKit
/-- A list of ints in a block of its own, from its beginning; or none. -/
def OrdAt (w : World) (v : Value) (zs : List Int) : Prop := (v = .slice none 0 0 ∧ zs = []) ∨ ∃ g cap, v = .slice (some ⟨g, 0, none⟩) zs.length cap ∧ HoldI w g zs ∧ 0 < zs.length ∧ zs.length ≤ cap ∧ cap ≤ 9223372036854775807
theorem OrdAt.of_owns {w : World} {base : Nat} {v : Value} {zs : List Int} (h : w.ownsRow base 3 1 v zs.length (zs.map (.int .i64))) (hn : v = .slice none 0 0 ∨ 0 < zs.length) : OrdAt w v zs := by
 by_cases h0 : 0 < zs.length
 ·obtain ⟨g, cap, rfl, _, _⟩ := owns_some h h0
  obtain ⟨_, _, hve, h1, h2⟩ := owns_slice h
  cases hve
  exact .inr ⟨g, cap, rfl, HoldI.of_owns h, h0, h1, h2⟩
 ·exact .inl ⟨hn.resolve_right h0, List.length_eq_zero_iff.1 (by omega)⟩
theorem OrdAt.ints {w : World} {v : Value} {zs : List Int} (h : OrdAt w v zs) : IntsAt w v zs := by
 rcases h with ⟨rfl, rfl⟩ | ⟨g, cap, rfl, hH, _, h1, h2⟩
 ·exact IntsAt.nil w
 ·exact HoldI.ints (ys := []) (by simpa using hH) rfl h1 h2
set_option maxRecDepth 100000 in
theorem rev_any (v : Value) (zs : List Int) (w : World) (h : OrdAt w v zs) (hl : zs.length ≤ 100000) :
 Calls Tryz.prog 99 #[v] w fun e w' => e = .returned (.tuple #[]) ∧ Touch (fun q => v.ownBlock = some q) w w' ∧ OrdAt w' v zs.reverse := by
 rcases h with ⟨rfl, rfl⟩ | ⟨g, cap, rfl, hH, h0, h1, h2⟩
 ·go_enter Tryz.func99, Tryz.ntmps99
  go_wp2
  go_loop [2, 3] (fun i j => i = .int .i64 0 ∧ j = .int .i64 (-1)) (fun _ _ => 0)
  case atStart => exact ⟨rfl, rfl⟩
  case round =>
   obtain ⟨rfl, rfl⟩ := hrel
   go_wp2
   go_end0
   exact ⟨rfl, Touch.refl _ _, .inl ⟨rfl, rfl⟩⟩
 ·refine (revI_any zs g cap w hH hl).mono ?_
  rintro e w' ⟨rfl, hT, hH2⟩
  exact ⟨rfl, hT.mono (fun k hk => by rw [hk]; rfl), .inr ⟨g, cap, by simp, hH2, by simpa using h0, by simpa using h1, h2⟩⟩
/-! ### The order by price -/
theorem sortWorld_touch {α : Type} [Inhabited α] (enc : α → Value) (w : World) (g m : Nat) (d : Array α) (os : Array Obj) : Touch (· = g) w (Go.Proofs.sortWorld enc w g 0 m d os) := by
 refine ⟨rfl, rfl, rfl, ?_, fun k o hk hn => ?_⟩
 ·simp [Go.Proofs.sortWorld, Go.Sort.grow, Go.Sort.putRow, Go.Sort.mapBlock, Go.Sort.ahead]
 ·have hlt := (Array.getElem?_eq_some_iff.1 hk).1
  simp only [Go.Proofs.sortWorld, Go.Sort.grow, Go.Sort.putRow, Go.Sort.mapBlock, Go.Sort.ahead]
  rw [Array.getElem?_append_left (by simpa using hlt), Array.getElem?_modify, if_neg (fun e => hn e.symm)]
  exact hk
/-- The prices of one of the goods, as they lie in memory. -/
def PricesAt (w : World) (lb gb : Nat) (ls : List Seller) (G : Nat) : Prop := ∃ la lc, w.cell? ⟨lb, 0, none⟩ = some (.slice la ls.length lc) ∧ w.cell? ⟨gb, 0, none⟩ = some (.int .i64 (G : Int)) ∧
 ∀ i, i < ls.length → ∃ b o pa pn pc qb qo, la = some ⟨b, o, none⟩ ∧ w.cell? ⟨b, o + i * 3 + 2, none⟩ = some (.slice pa pn pc) ∧ G < pn ∧ pa = some ⟨qb, qo, none⟩ ∧ w.cell? ⟨qb, qo + G, none⟩ = some (.int .i64 ((pricesOf ls G).getD i 0))
theorem PricesAt.ext {w w' : World} {lb gb : Nat} {ls : List Seller} {G : Nat} (h : PricesAt w lb gb ls G) (k : Ext w w') : PricesAt w' lb gb ls G := by
 obtain ⟨la, lc, h1, h2, h3⟩ := h
 refine ⟨la, lc, k.cell h1, k.cell h2, fun i hi => ?_⟩
 obtain ⟨b, o, pa, pn, pc, qb, qo, a1, a2, a3, a4, a5⟩ := h3 i hi
 exact ⟨b, o, pa, pn, pc, qb, qo, a1, k.cell a2, a3, a4, k.cell a5⟩
theorem SellersAt.prices {w : World} {la : Option Addr} {lc lb gb G : Nat} {ls : List Seller} {wants : List Int} (hS : SellersB ls wants) (hl : SellersAt w (.slice la ls.length lc) ls) (h1 : w.cell? ⟨lb, 0, none⟩ = some (.slice la ls.length lc)) (h2 : w.cell? ⟨gb, 0, none⟩ = some (.int .i64 (G : Int))) (hG : G < wants.length) : PricesAt w lb gb ls G := by
 obtain ⟨_, _, hve, _, _, h3⟩ := hl.open
 cases hve
 refine ⟨_, _, h1, h2, fun i hi => ?_⟩
 obtain ⟨b, o, s, sa, sc, pa, pc, ha, hs, _, _, c2, _, ip⟩ := h3 i hi
 have hso := hS.one s (List.mem_of_getElem? hs.out)
 obtain ⟨_, _, hve, _, _, p3⟩ := ip.open
 cases hve
 obtain ⟨qb, qo, x, hpa, hx, hc⟩ := p3 G (by omega)
 refine ⟨b, o, _, _, _, qb, qo, ha, c2, by omega, hpa, ?_⟩
 rw [hc]
 unfold pricesOf
 rw [List.getD_eq_getElem?_getD, List.getElem?_map, hs.out]
 show _ = some (Value.int .i64 (s.price.getD G 0))
 rw [List.getD_eq_getElem?_getD, hx.out]; rfl
theorem price_bd {ls : List Seller} {wants : List Int} (hS : SellersB ls wants) (G i : Nat) : 0 ≤ (pricesOf ls G).getD i 0 ∧ (pricesOf ls G).getD i 0 ≤ 1000 := by
 unfold pricesOf
 rw [List.getD_eq_getElem?_getD, List.getElem?_map]
 cases hs : ls[i]? with
 | none => simp
 | some s =>
  simp only [Option.map_some, Option.getD_some]
  rw [List.getD_eq_getElem?_getD]
  cases hx : s.price[G]? with
  | none => simp
  | some x => exact (hS.one s (List.mem_of_getElem? hs)).2.2.2.2 x (List.mem_of_getElem? hx)
set_option maxRecDepth 100000 in
set_option maxHeartbeats 4000000 in
theorem from1_any (lb gb : Nat) (ls : List Seller) (wants : List Int) (G x y : Nat) (w : World) (hS : SellersB ls wants) (hp : PricesAt w lb gb ls G) (hx : x < ls.length) (hy : y < ls.length) :
 Calls Tryz.prog 101 #[.int .i64 (x : Int), .int .i64 (y : Int), .pointer (some ⟨lb, 0, none⟩), .pointer (some ⟨gb, 0, none⟩)] w fun e w' => e = .returned (.int .i64 ((pricesOf ls G).getD x 0 - (pricesOf ls G).getD y 0)) ∧ ∃ q, w' = w.drewN q := by
 have hmix : Tryz.prog.follows .mixedOrders = true := by kernel_rfl
 obtain ⟨la, lc, c0, c1, h3⟩ := hp
 obtain ⟨b, o, pa, pn, pc, qb, qo, rfl, c2, hGn, rfl, c3⟩ := h3 x hx
 obtain ⟨_, _, pa', pn', pc', qb', qo', hve, c4, hGn', rfl, c5⟩ := h3 y hy
 cases hve
 have b1 := price_bd hS G x
 have b2 := price_bd hS G y
 have i1 : (0 : Int) ≤ (x : Int) := by omega
 have i2 : (x : Int) < (ls.length : Int) := by omega
 have i3 : (0 : Int) ≤ (y : Int) := by omega
 have i4 : (y : Int) < (ls.length : Int) := by omega
 have i5 : (0 : Int) ≤ (G : Int) := by omega
 have i6 : (G : Int) < (pn : Int) := by omega
 have i7 : (G : Int) < (pn' : Int) := by omega
 generalize (pricesOf ls G).getD x 0 = p1 at *
 generalize (pricesOf ls G).getD y 0 = p2 at *
 have hw : IntKind.i64.wrap (p1 - p2) = p1 - p2 := IntWalk.i64_in _ (by omega)
 clear h3 hS
 go_enter Tryz.func101, Tryz.ntmps101
 go_upto_region 1 with fail
 go_quiet (fail)
 go_wp2
 go_ret
 exact ⟨rfl, _, rfl⟩
theorem enters_from1 : ∀ args w, (callFunc 101 args).run Tryz.prog w = .ok (.enter 101 args) w := enters_of Tryz.func101 (by kernel_rfl) rfl
theorem ltP_swo {N : Nat} (P : List Int) : Go.Sort.SWO (ltP (N := N) P) where
 irrefl := fun x => by unfold ltP; rw [decide_eq_false_iff_not]; omega
 trans := fun x y z h1 h2 => by unfold ltP at *; rw [decide_eq_true_eq] at *; omega
 ntrans := fun x y z h1 h2 => by unfold ltP at *; rw [decide_eq_false_iff_not] at *; omega
open Go.Shelf Go.Lib Go.Sort in
set_option maxRecDepth 100000 in
theorem ins_any (N : Nat) (lb gb g cap : Nat) (ls : List Seller) (wants : List Int) (G : Nat) (d : Array (Fin (N + 1))) (w0 w : World) (hN : ls.length = N + 1) (hS : SellersB ls wants) (hp : PricesAt w0 lb gb ls G) (hx : Ext w0 w) (hg : w0.heap.size ≤ g) (hH : HoldI w g (d.toList.map fun x : Fin (N + 1) => ((x.val : Nat) : Int))) (hl : d.size ≤ 100000) :
 Calls Tryz.prog 153 #[.slice (some ⟨g, 0, none⟩) d.size cap, .int .i64 0, .int .i64 (d.size : Int), .func (.func 101) #[] #[.pointer (some ⟨lb, 0, none⟩), .pointer (some ⟨gb, 0, none⟩)]] w fun e w' => e = .returned (.tuple #[]) ∧ Touch (· = g) w w' ∧
  HoldI w' g ((insertionSort (ltP (pricesOf ls G)) d 0 d.size).toList.map fun x : Fin (N + 1) => ((x.val : Nat) : Int)) := by
 have hHd : Holds (fun x : Fin (N + 1) => Value.int .i64 ((x.val : Nat) : Int)) w g 0 d := fun j hj => by
  have h := hH.h j (by simpa using hj)
  refine ⟨?_, h.2⟩
  rw [h.1, getElem!_pos _ j (by simpa using hj), getElem!_pos _ j hj]
  simp
 have hlt : ltOf (fun x y : Fin (N + 1) => (pricesOf ls G).getD x.val 0 - (pricesOf ls G).getD y.val 0) = ltP (pricesOf ls G) := by
  funext x y
  show decide ((pricesOf ls G).getD x.val 0 - (pricesOf ls G).getD y.val 0 < 0) = decide ((pricesOf ls G).getD x.val 0 < (pricesOf ls G).getD y.val 0)
  apply decide_eq_decide.2
  omega
 have hcon := Any.insertionSortCmpFunc_one Tryz.insS (fun x : Fin (N + 1) => Value.int .i64 ((x.val : Nat) : Int)) (fun _ => rfl) (fun x y => (pricesOf ls G).getD x.val 0 - (pricesOf ls G).getD y.val 0) 101 #[.pointer (some ⟨lb, 0, none⟩), .pointer (some ⟨gb, 0, none⟩)] g 0 cap 0 d.size d w enters_from1
  (fun m os dk _ x y => by
   have hT := sortWorld_touch (fun x : Fin (N + 1) => Value.int .i64 ((x.val : Nat) : Int)) w g m dk os
   have hx2 := Touch.ext hx hT (fun i hi => by omega)
   exact from1_any lb gb ls wants G x.val y.val _ hS (hp.ext hx2) (by omega) (by omega)) hHd (Nat.zero_le _) (Nat.le_refl _) (by omega)
 rw [hlt] at hcon
 refine hcon.mono ?_
 rintro e w' ⟨rfl, n, rfl⟩
 have hsz : (insertionSort (ltP (pricesOf ls G)) d 0 d.size).size = d.size := (insertionSort_holds (lt := ltP (pricesOf ls G)) (ltP_swo _) d 0 d.size (Nat.zero_le _) (Nat.le_refl _)).1.1
 rw [← Go.Proofs.sortWorld_none]
 have hT := sortWorld_touch (fun x : Fin (N + 1) => Value.int .i64 ((x.val : Nat) : Int)) w g n (insertionSort (ltP (pricesOf ls G)) d 0 d.size) #[]
 refine ⟨rfl, hT, fun j hj => ?_, Nat.lt_of_lt_of_le hH.lt hT.size⟩
 have h1 : Holds (fun x : Fin (N + 1) => Value.int .i64 ((x.val : Nat) : Int)) (Go.Proofs.sortWorld (fun x : Fin (N + 1) => Value.int .i64 ((x.val : Nat) : Int)) w g 0 n (insertionSort (ltP (pricesOf ls G)) d 0 d.size) #[]) g 0 (insertionSort (ltP (pricesOf ls G)) d 0 d.size) := by
  unfold Go.Proofs.sortWorld
  rw [grow_empty]
  exact Go.Sort.holds_putRow _ _ _ _ d _ (Go.Sort.holds_ahead _ _ n _ _ _ hHd) hsz
 have hj2 : j < (insertionSort (ltP (pricesOf ls G)) d 0 d.size).size := by simpa using hj
 have h2 := h1 j hj2
 refine ⟨?_, h2.2⟩
 rw [h2.1, getElem!_pos _ j hj2, getElem!_pos _ j hj]
 simp
/-- The library's stable sort at a few: one insertion sort. -/
theorem set_lt {n set : Nat} {x : Nat} (h : x ∈ setL n set) : x < n := List.mem_range.1 (List.mem_filter.1 h).1
theorem setL_len (n set : Nat) : (setL n set).length ≤ n := Nat.le_trans (List.length_filter_le _ _) (by simp)
open Go.Shelf Go.Lib Go.Sort in
set_option maxRecDepth 100000 in
set_option maxHeartbeats 4000000 in
theorem stable_any (lb gb : Nat) (v : Value) (ls : List Seller) (wants : List Int) (G set : Nat) (w0 w : World) (hS : SellersB ls wants) (hp : PricesAt w0 lb gb ls G) (hx : Ext w0 w) (hv : OrdAt w v ((setL ls.length set).reverse.map fun i : Nat => (i : Int))) (hg : ∀ q, v.ownBlock = some q → w0.heap.size ≤ q) :
 Calls Tryz.prog 100 #[v, .func (.func 101) #[] #[.pointer (some ⟨lb, 0, none⟩), .pointer (some ⟨gb, 0, none⟩)]] w fun e w' => e = .returned (.tuple #[]) ∧ Touch (fun q => v.ownBlock = some q) w w' ∧ OrdAt w' v ((orderL (pricesOf ls G) ls.length set).map fun i : Nat => (i : Int)) := by
 have hl4 := hS.l4
 have hl1 := hS.l1
 rcases hv with ⟨rfl, hz⟩ | ⟨g, cap, rfl, hH, h0, h1, h2⟩
 ·have hset : setL ls.length set = [] := by simpa using hz
  have hord : orderL (pricesOf ls G) ls.length set = [] := by unfold orderL; rw [hset]; rfl
  rw [hord]
  have HN : Hid (∀ w1, Calls Tryz.prog 128 #[.slice none 0 0, .int .i64 0, .func (.func 101) #[] #[.pointer (some ⟨lb, 0, none⟩), .pointer (some ⟨gb, 0, none⟩)]] w1 fun e w' => e = .returned (.tuple #[]) ∧ w1 = w') := by
   intro w1
   have HI : Hid (∀ w1, Calls Tryz.prog 153 #[.slice none 0 0, .int .i64 0, .int .i64 0, .func (.func 101) #[] #[.pointer (some ⟨lb, 0, none⟩), .pointer (some ⟨gb, 0, none⟩)]] w1 fun e w' => e = .returned (.tuple #[]) ∧ w1 = w') := by
    intro w1
    go_enter Tryz.func153, Tryz.ntmps153
    go_wp2
    go_loop [8] (fun i => i = .int .i64 1) (fun _ => 0)
    case atStart => rfl
    case round =>
     subst hrel
     go_wp2
     go_end0
     exact ⟨rfl, rfl⟩
   go_enter Tryz.func128, Tryz.ntmps128
   go_wp2
   go_loop [7, 8] (fun a b => a = .int .i64 0 ∧ b = .int .i64 20) (fun _ _ => 0)
   case atStart => exact ⟨rfl, rfl⟩
   case round =>
    obtain ⟨rfl, rfl⟩ := hrel
    go_wp2_with (go_at_call 153; refine (HI.out _).mono ?_; rintro e w' ⟨rfl, rfl⟩)
    go_loop [6] (fun a => a = .int .i64 20) (fun _ => 0)
    case atStart => rfl
    case round =>
     subst hrel
     go_wp2
     go_end0
     exact ⟨rfl, rfl⟩
  go_enter Tryz.func100, Tryz.ntmps100
  go_wp2_with (go_at_call 128; refine (HN.out _).mono ?_; rintro e w' ⟨rfl, rfl⟩)
  go_end0
  exact ⟨rfl, Touch.refl _ _, .inl ⟨rfl, rfl⟩⟩
 ·obtain ⟨N, hN⟩ : ∃ N, ls.length = N + 1 := ⟨ls.length - 1, by omega⟩
  obtain ⟨d, hd⟩ : ∃ d : Array (Fin (N + 1)), d.toList.map Fin.val = (setL ls.length set).reverse := by
   refine ⟨((setL ls.length set).reverse.attach.map fun x => (⟨x.val, by have := set_lt (List.mem_reverse.1 x.property); omega⟩ : Fin (N + 1))).toArray, ?_⟩
   simp only [List.map_map]
   exact (List.map_congr_left fun x _ => rfl).trans (List.attach_map_subtype_val _)
  have hdl : d.size = (setL ls.length set).reverse.length := by rw [← hd]; simp
  have hdz : (setL ls.length set).reverse.map (fun i : Nat => (i : Int)) = d.toList.map fun x : Fin (N + 1) => ((x.val : Nat) : Int) := by rw [← hd, List.map_map]; rfl
  have hsl := setL_len ls.length set
  have hd4 : d.size ≤ 4 := by rw [hdl, List.length_reverse]; omega
  have hos := order_sorted (pricesOf ls G) d ls.length set hd
  have hfin : ((insertionSort (ltP (pricesOf ls G)) d 0 d.size).toList.map fun x : Fin (N + 1) => ((x.val : Nat) : Int)) = (orderL (pricesOf ls G) ls.length set).map fun i : Nat => (i : Int) := by
   rw [← hos, List.map_map]; rfl
  have hlen : ((setL ls.length set).reverse.map (fun i : Nat => (i : Int))).length = d.size := by rw [hdz]; simp
  rw [hdz] at hH
  have HIN := Lib.hid (fun (w1 : World) (h : Ext w0 w1) (hH1 : HoldI w1 g (d.toList.map fun x : Fin (N + 1) => ((x.val : Nat) : Int))) => ins_any N lb gb g cap ls wants G d w0 w1 hN hS hp h (hg g rfl) hH1 (by omega))
  rw [hfin] at HIN
  have hol : ((orderL (pricesOf ls G) ls.length set).map fun i : Nat => (i : Int)).length = d.size := by
   rw [← hfin]
   have := (insertionSort_holds (lt := ltP (pricesOf ls G)) (ltP_swo _) d 0 d.size (Nat.zero_le _) (Nat.le_refl _)).1.1
   simpa using this
  rw [hlen] at h0 h1 ⊢
  obtain ⟨n, hn⟩ : ∃ n, d.size = n := ⟨_, rfl⟩
  rw [hn] at HIN hd4 h0 h1 hol ⊢
  have HH := Lib.hid hH
  have HX := Lib.hid hx
  have HOL := Lib.hid hol
  have t1 : decide ((20 : Int) ≤ (n : Int)) = false := by simp; omega
  have t2 : decide ((20 : Int) < (n : Int)) = false := by simp; omega
  have t1' : decide (20 ≤ n) = false := by simp; omega
  have t2' : decide (20 < n) = false := by simp; omega
  have HN : Hid (∀ w1, Ext w0 w1 → HoldI w1 g (d.toList.map fun x : Fin (N + 1) => ((x.val : Nat) : Int)) → Calls Tryz.prog 128 #[.slice (some ⟨g, 0, none⟩) n cap, .int .i64 (n : Int), .func (.func 101) #[] #[.pointer (some ⟨lb, 0, none⟩), .pointer (some ⟨gb, 0, none⟩)]] w1 fun e w' => e = .returned (.tuple #[]) ∧ Touch (· = g) w1 w' ∧ HoldI w' g ((orderL (pricesOf ls G) ls.length set).map fun i : Nat => (i : Int))) := by
   intro w1 hx1 hH1
   have HC := Lib.hid (HIN.out w1 hx1 hH1)
   clear hx1 hH1 hx hH hol hos hfin hlen hdz hdl hd hp hS hN hn
   go_enter Tryz.func128, Tryz.ntmps128
   go_wp2
   go_loop [7, 8] (fun a b => a = .int .i64 0 ∧ b = .int .i64 20) (fun _ _ => 0)
   case atStart => exact ⟨rfl, rfl⟩
   case round =>
    obtain ⟨rfl, rfl⟩ := hrel
    go_wp2_with (go_at_call 153; refine HC.out.mono ?_; rintro e w' ⟨rfl, hT, hH2⟩)
    have HT := Lib.hid (And.intro hT hH2)
    clear hT hH2
    go_loop [6] (fun a => a = .int .i64 20) (fun _ => 0)
    case atStart => rfl
    case round =>
     subst hrel
     go_wp2
     go_end0
     exact ⟨rfl, HT.out.1, HT.out.2⟩
  clear hH hx hol hos hfin hlen hdz hdl hd hp hS hN hn
  go_enter Tryz.func100, Tryz.ntmps100
  go_wp2_with (go_at_call 128; refine (HN.out _ HX.out HH.out).mono ?_; rintro e w' ⟨rfl, hT, hH2⟩)
  go_end0
  exact ⟨rfl, hT.mono (fun k hk => by rw [hk]; rfl), .inr ⟨g, cap, by rw [HOL.out], hH2, by rw [HOL.out]; exact h0, by rw [HOL.out]; exact h1, h2⟩⟩
end Go.Proofs.YtokananogogjaaaGreatDoor

/- from: the purchase from a set of sellers. -/
namespace Go.Proofs.YtokananogogjaaaGreatDoor
open Go.RowKit
/-! ### In plain Lean -/
theorem greedy_left (S : List Int) : ∀ (o : List Nat) (left : Int) (c : List Int), 0 ≤ left → (∀ i, 0 ≤ S.getD i 0) → 0 ≤ (greedyL S o left c).2 ∧ (greedyL S o left c).2 ≤ left
 | [], left, c, h, _ => by simp [greedyL]; omega
 | i :: o, left, c, h, hS => by
  have h1 := hS i
  have h2 := greedy_left S o (left - min left (S.getD i 0)) (c.set i (min left (S.getD i 0))) (by omega) hS
  unfold greedyL
  omega
theorem from_none {ls : List Seller} {wants : List Int} {set G : Nat} (hG : G ≤ wants.length) (h : shortTo ls wants set G = true) : fromB ls wants set = none := by
 unfold shortTo at h
 obtain ⟨g, hg, h1⟩ := List.any_eq_true.1 h
 rw [List.mem_range] at hg
 unfold fromB
 rw [if_neg]
 intro h2
 rw [List.all_eq_true] at h2
 have h3 := h2 g (List.mem_range.2 (by omega))
 simp only [decide_eq_true_eq] at h1 h3
 omega
theorem from_yes {ls : List Seller} {wants : List Int} {set : Nat} (h : shortTo ls wants set wants.length = false) : fromB ls wants set = some (planOf ls wants set) := by
 unfold shortTo at h
 rw [List.any_eq_false] at h
 unfold fromB
 rw [if_pos]
 rw [List.all_eq_true]
 intro g hg
 have h1 := h g hg
 simp only [decide_eq_true_eq] at h1 ⊢
 omega
/-! ### A purchase in the making -/
structure PlanI (base n m : Nat) (W : World) (pb : Nat) (rbs : List Nat) (rows : List (List Int)) : Prop where
 own : W.ownsRow base 42 1 (.slice (some ⟨pb, 0, none⟩) n n) n ((rbs.map fun b => Value.slice (some ⟨b, 0, none⟩) m m) ++ List.replicate (n - rbs.length) (.slice none 0 0))
 len : rows.length = rbs.length
 row : ∀ (i b : Nat) (r : List Int), rbs[i]? = some b → rows[i]? = some r → r.length = m ∧ W.ownsRow base 3 1 (.slice (some ⟨b, 0, none⟩) m m) m (r.map (.int .i64))
 nd : rbs.Nodup
theorem PlanI.ne {base n m : Nat} {W : World} {pb : Nat} {rbs : List Nat} {rows : List (List Int)} (h : PlanI base n m W pb rbs rows) {b : Nat} (hb : b ∈ rbs) : b ≠ pb ∧ base ≤ b ∧ b < W.heap.size := by
 obtain ⟨i, hi⟩ := List.getElem?_of_mem hb
 have hl := (List.getElem?_eq_some_iff.1 hi).1
 have h1 := (h.row i b (rows[i]'(by rw [h.len]; exact hl)) hi (by simp)).2
 refine ⟨fun e => ?_, owns_block h1 b rfl, (World.ownsRow.lt h1 b rfl).2⟩
 subst e
 obtain ⟨_, ⟨q, _⟩ | ⟨g, cap, cur, q, _, hh, _⟩⟩ := h1
 ·cases q
 ·cases q
  obtain ⟨_, ⟨q, _⟩ | ⟨g', cap', cur', q, _, hh', _⟩⟩ := h.own
  ·cases q
  ·cases q
   rw [hh] at hh'
   cases hh'
theorem PlanI.touch {base n m : Nat} {W W' : World} {pb : Nat} {rbs : List Nat} {rows : List (List Int)} {M : Nat → Prop} (h : PlanI base n m W pb rbs rows) (k : Touch M W W') (h1 : ¬ M pb) (h2 : ∀ b, b ∈ rbs → ¬ M b) : PlanI base n m W' pb rbs rows :=
 ⟨owns_touch h.own k (fun g hg => by cases hg; exact h1), h.len, fun i b r hi hr => ⟨(h.row i b r hi hr).1, owns_touch (h.row i b r hi hr).2 k (fun g hg => by cases hg; exact h2 b (List.mem_of_getElem? hi))⟩, h.nd⟩
theorem PlanI.ext {base n m : Nat} {W W' : World} {pb : Nat} {rbs : List Nat} {rows : List (List Int)} (h : PlanI base n m W pb rbs rows) (k : Ext W W') : PlanI base n m W' pb rbs rows :=
 h.touch (M := fun _ => False) (Touch.of_ext k) (fun h => h) (fun _ _ h => h)
theorem owns_lowr {W : World} {b b' : Nat} {e : TypeId} {size : Nat} {v : Value} {n : Nat} {xs : List Value} (h : W.ownsRow b e size v n xs) (hb : b' ≤ b) : W.ownsRow b' e size v n xs :=
 ⟨h.1, h.2.elim .inl (fun ⟨g, cap, cur, a, c, d⟩ => .inr ⟨g, cap, cur, a, Nat.le_trans hb c, d⟩)⟩
/-- One row more. -/
theorem PlanI.make {base n m : Nat} {W W5 : World} {pb b : Nat} {rbs : List Nat} {rows : List (List Int)} (h : PlanI base n m W pb rbs rows) (hn : rbs.length < n) (k : Ext W W5) (hb : W.heap.size ≤ b) (ho : W5.ownsRow W.heap.size 3 1 (.slice (some ⟨b, 0, none⟩) m m) m ((List.replicate m (0 : Int)).map (.int .i64))) (hbs : base ≤ W.heap.size) :
 W5.cell? ⟨pb, rbs.length, none⟩ = some (.slice none 0 0) ∧ W5.frozen? ⟨pb, rbs.length, none⟩ = false ∧ PlanI base n m (W5.setCell ⟨pb, rbs.length, none⟩ (.slice (some ⟨b, 0, none⟩) m m)) pb (rbs ++ [b]) (rows ++ [List.replicate m 0]) := by
 have h5 := h.ext k
 have hpb := (World.ownsRow.lt h.own pb rfl).2
 have hT : Touch (fun i => i = pb) W5 (W5.setCell ⟨pb, rbs.length, none⟩ (.slice (some ⟨b, 0, none⟩) m m)) := Touch.setCell _ rfl
 have hnb : b ∉ rbs := fun hm => by have := (h.ne hm).2.2; omega
 refine ⟨?_, h5.own.frozenAt _, ?_, by rw [List.length_append, List.length_append, h.len]; rfl, fun i c r hi hr => ?_, ?_⟩
 ·rw [h5.own.cellAt _ (by omega), List.getElem?_append_right (by simp), List.length_map, Nat.sub_self, List.getElem?_replicate, if_pos (by omega)]
 ·have hs := (h5.own.stored rbs.length (.slice (some ⟨b, 0, none⟩) m m)).1
  rw [List.set_append_right _ _ (by simp), List.length_map, Nat.sub_self] at hs
  have e : n - rbs.length = (n - (rbs ++ [b]).length) + 1 := by simp; omega
  rw [e, List.replicate_succ, List.set_cons_zero] at hs
  rw [List.map_append, List.append_assoc]
  exact hs
 ·by_cases hlt : i < rbs.length
  ·rw [List.getElem?_append_left hlt] at hi
   rw [List.getElem?_append_left (by rw [h.len]; exact hlt)] at hr
   have h6 := h5.row i c r hi hr
   exact ⟨h6.1, owns_touch h6.2 hT (fun g hg => by cases hg; exact (h5.ne (List.mem_of_getElem? hi)).1)⟩
  ·have hi2 := (List.getElem?_eq_some_iff.1 hi).1
   have hie : i = rbs.length := by simp at hi2; omega
   subst hie
   rw [List.getElem?_append_right (Nat.le_refl _), Nat.sub_self] at hi
   rw [← h.len, List.getElem?_append_right (Nat.le_refl _), Nat.sub_self] at hr
   simp at hi hr
   subst hi hr
   refine ⟨by simp, owns_lowr (owns_touch ho hT (fun g hg => by cases hg; intro e; simp only at e; omega)) hbs⟩
 ·rw [List.nodup_append]
  exact ⟨h.nd, by simp, fun x hx y hy => by simp at hy; subst hy; exact fun e => hnb (e ▸ hx)⟩
/-- A number is written into a row. -/
theorem PlanI.set {base n m : Nat} {W : World} {pb : Nat} {rbs : List Nat} {rows : List (List Int)} (h : PlanI base n m W pb rbs rows) {i b g : Nat} {r : List Int} (hi : rbs[i]? = some b) (hr : rows[i]? = some r) (v : Int) :
 PlanI base n m (W.setCell ⟨b, g, none⟩ (.int .i64 v)) pb rbs (rows.set i (r.set g v)) := by
 have hT : Touch (fun j => j = b) W (W.setCell ⟨b, g, none⟩ (.int .i64 v)) := Touch.setCell _ rfl
 have hbm := List.mem_of_getElem? hi
 refine ⟨owns_touch h.own hT (fun q hq => by cases hq; exact fun e => (h.ne hbm).1 e.symm), by rw [List.length_set]; exact h.len, fun j c q hj hq => ?_, h.nd⟩
 by_cases hij : i = j
 ·subst hij
  rw [hi] at hj
  cases hj
  rw [List.getElem?_set_self (List.getElem?_eq_some_iff.1 hr).1] at hq
  cases hq
  have h1 := h.row i b r hi hr
  refine ⟨by rw [List.length_set]; exact h1.1, ?_⟩
  rw [List.map_set]
  exact (h1.2.stored g (.int .i64 v)).1
 ·rw [List.getElem?_set_ne hij] at hq
  have h1 := h.row j c q hj hq
  refine ⟨h1.1, owns_touch h1.2 hT (fun x hx => by
   cases hx
   intro e
   have hjl := (List.getElem?_eq_some_iff.1 hj).1
   have hil := (List.getElem?_eq_some_iff.1 hi).1
   have e1 := (List.getElem?_eq_some_iff.1 hj).2
   have e2 := (List.getElem?_eq_some_iff.1 hi).2
   exact hij ((List.getElem_inj h.nd).1 (by rw [e1, e2]; exact e.symm)))⟩
theorem flat_one2 : ∀ l : List (Value × List Int), (l.flatMap fun x => [x.1]) = l.map Prod.fst
 | [] => rfl
 | a :: l => by rw [List.flatMap_cons, flat_one2 l]; rfl
theorem PlanI.rows_at {base n m : Nat} {W : World} {pb : Nat} {rbs : List Nat} {rows : List (List Int)} (h : PlanI base n m W pb rbs rows) (hn : rbs.length = n) : IntRowsAt W (.slice (some ⟨pb, 0, none⟩) n n) rows := by
 refine ⟨(rbs.map fun b => Value.slice (some ⟨b, 0, none⟩) m m).zip rows, ?_, ?_, fun x hx => ?_⟩
 ·rw [List.map_snd_zip]; rw [List.length_map, h.len]; exact Nat.le_refl _
 ·have hr := RowAt.of_owns h.own
  rw [hn, Nat.sub_self, List.replicate_zero, List.append_nil] at hr
  unfold RowOf
  rw [flat_one2, List.map_fst_zip (by rw [List.length_map, h.len]; exact Nat.le_refl _), List.length_zip, List.length_map, h.len, Nat.min_self, hn]
  exact hr
 ·obtain ⟨i, hi⟩ := List.getElem?_of_mem hx
  rw [List.getElem?_zip_eq_some] at hi
  obtain ⟨h1, h2⟩ := hi
  rw [List.getElem?_map] at h1
  cases hb : rbs[i]? with
  | none => rw [hb] at h1; cases h1
  | some b =>
   rw [hb] at h1
   have h3 := h.row i b x.2 hb h2
   have h4 : x.1 = Value.slice (some ⟨b, 0, none⟩) m m := (Option.some.inj h1).symm
   rw [h4]
   have h5 := h3.2
   rw [← h3.1] at h5 ⊢
   exact IntsAt.of_owns h5
/-- A purchase in blocks of its own. -/
def PlanAt (W : World) (v : Value) (p : List (List Int)) : Prop := ∃ pb rbs n m, v = .slice (some ⟨pb, 0, none⟩) n n ∧ rbs.length = n ∧ p.length = n ∧ PlanI 0 n m W pb rbs p
theorem PlanAt.rows {W : World} {v : Value} {p : List (List Int)} (h : PlanAt W v p) : IntRowsAt W v p := by
 obtain ⟨pb, rbs, n, m, rfl, h1, _, h2⟩ := h
 exact h2.rows_at h1
theorem PlanAt.ext {W W' : World} {v : Value} {p : List (List Int)} (h : PlanAt W v p) (k : Ext W W') : PlanAt W' v p := by
 obtain ⟨pb, rbs, n, m, rfl, h1, h3, h2⟩ := h
 exact ⟨pb, rbs, n, m, rfl, h1, h3, h2.ext k⟩
/-- No block of M is one of ints, or of lists of ints. -/
def NotRows (W : World) (M : Nat → Prop) : Prop := ∀ j, M j → ∀ cur fr, W.heap[j]? ≠ some (.cells cur 3 fr) ∧ W.heap[j]? ≠ some (.cells cur 42 fr)
theorem PlanAt.touch {W W' : World} {v : Value} {p : List (List Int)} {M : Nat → Prop} (h : PlanAt W v p) (k : Touch M W W') (hn : NotRows W M) : PlanAt W' v p := by
 obtain ⟨pb, rbs, n, m, rfl, h1, h3, h2⟩ := h
 refine ⟨pb, rbs, n, m, rfl, h1, h3, h2.touch k (fun hm => ?_) (fun b hb hm => ?_)⟩
 ·obtain ⟨_, ⟨q, _⟩ | ⟨g, cap, cur, q, _, hh, _⟩⟩ := h2.own
  ·cases q
  ·cases q
   exact (hn _ hm _ _).2 hh
 ·obtain ⟨i, hi⟩ := List.getElem?_of_mem hb
  have hl := (List.getElem?_eq_some_iff.1 hi).1
  obtain ⟨_, ⟨q, _⟩ | ⟨g, cap, cur, q, _, hh, _⟩⟩ := (h2.row i b (p[i]'(by rw [h2.len]; exact hl)) hi (by simp)).2
  ·cases q
  ·cases q
   exact (hn _ hm _ _).1 hh
theorem PlanI.lower {base n m : Nat} {W : World} {pb : Nat} {rbs : List Nat} {rows : List (List Int)} (h : PlanI base n m W pb rbs rows) : PlanI 0 n m W pb rbs rows :=
 ⟨owns_lowr h.own (Nat.zero_le _), h.len, fun i b r hi hr => ⟨(h.row i b r hi hr).1, owns_lowr (h.row i b r hi hr).2 (Nat.zero_le _)⟩, h.nd⟩
def FromRes (ls : List Seller) (wants : List Int) (set : Nat) (w : World) (e : Ending) (w' : World) : Prop :=
 Ext w w' ∧ ((fromB ls wants set = none ∧ e = .returned (.tuple #[.slice none 0 0, .bool false])) ∨ ∃ p v, fromB ls wants set = some p ∧ e = .returned (.tuple #[v, .bool true]) ∧ PlanAt w' v p)
theorem E_intss2 : Elem Tryz.prog 29 42 1 24 (.slice none 0 0) := by
 obtain ⟨i, h1, h2, h3, h4⟩ := info_parts (P := Tryz.prog) (e := 42) (z := .slice none 0 0) (size := 1) (bytes := 24) (by kernel_rfl)
 exact ⟨Tryz.underlying29, ⟨i, h1, h2, h3, h4⟩, rfl, by decide⟩
theorem made_nils (n : Nat) : (madeCells (Value.slice none 0 0).cells (n * 1)).toList = List.replicate n (Value.slice none 0 0) := by
 refine List.eq_replicate_iff.2 ⟨by simp [size_madeCells], fun x hx => ?_⟩
 obtain ⟨i, hi, rfl⟩ := List.getElem_of_mem hx
 simp [madeCells]
 show (#[Value.slice none 0 0] : Array Value)[i % 1]! = _
 rw [Nat.mod_one]; rfl
theorem natsL_push {k : Nat} {set : Nat} : (setL (k + 1) set).map (fun i : Nat => (i : Int)) = (setL k set).map (fun i : Nat => (i : Int)) ++ (if set.testBit k then [(k : Int)] else []) := by
 unfold setL
 rw [List.range_succ, List.filter_append, List.map_append]
 congr 1
 cases h : set.testBit k with
 | true => rw [List.filter_cons_of_pos (by simpa using h)]; rfl
 | false => rw [List.filter_cons_of_neg (by simpa using h)]; rfl
set_option maxRecDepth 100000 in
set_option maxHeartbeats 16000000 in
theorem from_any (lv wv : Value) (ls : List Seller) (wants : List Int) (set : Nat) (w : World) (hS : SellersB ls wants) (hset : set < 16) (hl : SellersAt w lv ls) (hw : IntsAt w wv wants) :
 Calls Tryz.prog 67 #[lv, wv, .int .i64 (set : Int)] w (FromRes ls wants set w) := by
 have HSL := Lib.hid (fun (W1 : World) (h : Ext w W1) => hl.ext h)
 obtain ⟨la, lc, rfl, hl1, hl2, hl3⟩ := hl.open
 obtain ⟨wa, wc, rfl, hw1, hw2, hw3⟩ := hw.open
 have HL3 := Lib.hid hl3
 have HW3 := Lib.hid hw3
 have HS := Lib.hid hS
 have hn4 := hS.l4
 have hn1 := hS.l1
 have hn5 := hS.w5
 have hno : ∀ w', fromB ls wants set = none → Ext w w' → FromRes ls wants set w (.returned (.tuple #[.slice none 0 0, .bool false])) w' := fun w' h hx => ⟨hx, .inl ⟨h, rfl⟩⟩
 have hyes : ∀ w' p v, fromB ls wants set = some p → Ext w w' → PlanAt w' v p → FromRes ls wants set w (.returned (.tuple #[v, .bool true])) w' := fun w' p v h hx hi => ⟨hx, .inr ⟨p, v, h, rfl, hi⟩⟩
 have HNO := Lib.hid hno
 have HYES := Lib.hid hyes
 obtain ⟨W, hW⟩ : ∃ W, W = w.alloc (.cells #[.slice la ls.length lc] 80) := ⟨_, rfl⟩
 have hx0 : Ext w W := by rw [hW]; exact (Ext.refl w).alloc _
 have hzW : W.heap.size = w.heap.size + 1 := by rw [hW]; simp
 have c0 : W.cell? ⟨w.heap.size, 0, none⟩ = some (.slice la ls.length lc) := by rw [hW]; go_simp
 have HX0 := Lib.hid hx0
 have HC := Lib.hid (fun W1 (h : Ext W W1) => h.cell c0)
 obtain ⟨ii, hi1, hi2, hi3, hi4⟩ := E_intss2.info
 obtain ⟨w6, hrun, hown6, hgr⟩ := run_makeSlice_full (P := Tryz.prog) (w := W) W.heap.size 29 42 ii (.slice none 0 0) 1 Tryz.underlying29 hi1 hi2 hi3 .i64 .i64 ls.length (by omega) (by rw [hi4]; omega) (by unfold maxLen; omega) (Nat.le_refl _)
 rw [made_nils] at hown6
 have hx6 : Ext W w6 := Ext.grown (Ext.refl W) hgr (fun k h => by cases h)
 have hp6 : PlanI W.heap.size ls.length wants.length w6 W.heap.size [] [] := ⟨by simpa using hown6, rfl, fun i b r hi => by simp at hi, List.nodup_nil⟩
 have c6 := hx6.cell c0
 have HX6 := Lib.hid hx6
 have HP6 := Lib.hid hp6
 have HZW := Lib.hid hzW
 clear hl hw hl3 hw3 hS hno hyes hx0 hown6 hgr hx6 hp6 hi1 hi2 hi3 hi4 hzW
 go_enter Tryz.func67, Tryz.ntmps67
 go_upto_region 1 with fail
 rw [← hW]
 clear hW
 generalize hm : W.heap.size = pb at hrun HP6
 have HM := Lib.hid hm
 clear hm
 go_wp2
 clear c0 c6 hrun
 go_loopw [22] (fun j wr => ∃ (i : Nat) (rbs : List Nat), i ≤ ls.length ∧ j = .int .i64 (i : Int) ∧ Hid (rbs.length = i) ∧ PlanI pb ls.length wants.length wr pb rbs (List.replicate i (List.replicate wants.length 0)) ∧ Ext W wr ∧ pb ≤ wr.heap.size) (fun j _ => ls.length - (intOf j).toNat)
 case atStart => exact ⟨0, [], Nat.zero_le _, rfl, rfl, HP6.out, HX6.out, by rw [← HM.out]; exact HX6.out.size⟩
 case round =>
  obtain ⟨i, rbs, hi, rfl, hrl, hpl, hx, hps⟩ := hrel
  have c1 := HC.out _ hx
  by_cases hlt : i < ls.length
  ·have i1 : (0 : Int) ≤ (i : Int) := by omega
   have i2 : (i : Int) < (ls.length : Int) := by omega
   obtain ⟨jj, hj1, hj2, hj3, hj4⟩ := E_ints.info
   obtain ⟨w7, hrun7, hown7, hgr7⟩ := run_makeSlice_full (P := Tryz.prog) (w := wr) wr.heap.size 42 3 jj (.int .i64 0) 1 Tryz.underlying42 hj1 hj2 hj3 .i64 .i64 wants.length (by omega) (by rw [hj4]; omega) (by unfold maxLen; omega) (Nat.le_refl _)
   rw [madeCells_int, List.toList_toArray] at hown7
   have hx7 : Ext wr w7 := Ext.grown (Ext.refl wr) hgr7 (fun k h => by cases h)
   obtain ⟨y0, y1, hp7⟩ := hpl.make (by rw [hrl.out]; exact hlt) hx7 (Nat.le_refl _) hown7 hps
   rw [hrl.out] at y0 y1 hp7
   have HP7 := Lib.hid hp7
   have HX7 := Lib.hid hx7
   have HX := Lib.hid hx
   have HRL := Lib.hid hrl.out
   clear hown7 hgr7 hj1 hj2 hj3 hj4 hpl hx hp7 hx7 hrl c1
   generalize hm : wr.heap.size = m at hrun7 HP7 hps
   have HM7 := Lib.hid hm
   clear hm
   go_wp2
   go_roundw
   case rel =>
    refine ⟨i + 1, rbs ++ [m], by omega, by go_num, by unfold Hid; rw [List.length_append, HRL.out]; rfl, ?_, Touch.ext (HX.out.trans HX7.out) (Touch.setCell (M := fun q => q = pb) (a := ⟨pb, i, none⟩) _ rfl) (fun q hq => by have := HM.out; omega), ?_⟩
    ·rw [List.replicate_succ']; exact HP7.out
    ·have h1 := HX7.out.size
     have h2 := (Touch.setCell (M := fun q => q = pb) (A := w7) (a := ⟨pb, i, none⟩) (.slice (some ⟨m, 0, none⟩) wants.length wants.length) rfl).size
     have := HM7.out
     omega
   case measure => simp [intOf]; omega
  ·have hie : i = ls.length := by omega
   rw [hie] at hrl hpl
   have hpl0 : PlanI pb ls.length wants.length wr pb rbs (planCol ls wants set 0 (List.replicate ls.length 0)) := by rw [planCol_zero]; exact hpl
   have HPL := Lib.hid hpl0
   have HX := Lib.hid hx
   have HRL := Lib.hid hrl.out
   clear hpl hpl0 hx hrl hie
   go_wp2
   clear c1
   obtain ⟨wp, rfl⟩ : ∃ wp : World, wp = wr := ⟨_, rfl⟩
   go_loopw [34] (fun j wr => ∃ G : Nat, G ≤ wants.length ∧ j = .int .i64 (G : Int) ∧ Hid (shortTo ls wants set G = false) ∧ PlanI pb ls.length wants.length wr pb rbs (planCol ls wants set G (List.replicate ls.length 0)) ∧ Ext W wr ∧ pb ≤ wr.heap.size) (fun j _ => wants.length - (intOf j).toNat)
   case atStart => exact ⟨0, Nat.zero_le _, rfl, by simp [Hid, shortTo], HPL.out, HX.out, hps⟩
   case round =>
    obtain ⟨G, hG, rfl, hsh, hpl, hx, hps2⟩ := hrel
    have c1 := HC.out _ hx
    by_cases hlt2 : G < wants.length
    ·obtain ⟨wb, wo, lf0, rfl, hwk, d0⟩ := HW3.out G hlt2
     have hxw := HX0.out.trans hx
     have d1 := hxw.cell d0
     have i1 : (0 : Int) ≤ (G : Int) := by omega
     have i2 : (G : Int) < (wants.length : Int) := by omega
     have hlb := HS.out.want lf0 (List.mem_of_getElem? hwk.out)
     have hwD : wants.getD G 0 = lf0 := by rw [List.getD_eq_getElem?_getD, hwk.out]; rfl
     obtain ⟨W1, hW1⟩ : ∃ W1, W1 = wr.alloc (.cells #[.int .i64 (G : Int)] 3) := ⟨_, rfl⟩
     have hx1 : Ext wr W1 := by rw [hW1]; exact (Ext.refl wr).alloc _
     have hz1 : W1.heap.size = wr.heap.size + 1 := by rw [hW1]; simp
     have g0 : W1.cell? ⟨wr.heap.size, 0, none⟩ = some (.int .i64 (G : Int)) := by rw [hW1]; go_simp
     obtain ⟨gb, hgb⟩ : ∃ gb, wr.heap.size = gb := ⟨_, rfl⟩
     have c2 := hx1.cell c1
     have HPR := Lib.hid (SellersAt.prices (lb := w.heap.size) (gb := gb) HS.out (HSL.out W1 (hxw.trans hx1)) c2 (by rw [← hgb]; exact g0) hlt2)
     have HG0 := Lib.hid (show W1.cell? ⟨gb, 0, none⟩ = some (.int .i64 (G : Int)) by rw [← hgb]; exact g0)
     have HPL1 := Lib.hid (hpl.ext hx1)
     have HX1 := Lib.hid (hx.trans hx1)
     have HSH := Lib.hid hsh.out
     have HWD := Lib.hid hwD
     have HZ1 := Lib.hid (show W1.heap.size = gb + 1 by rw [← hgb]; exact hz1)
     have HPB := Lib.hid (show pb ≤ gb by rw [← hgb]; exact hps2)
     have HBL : Hid (∀ b, b ∈ rbs → b < gb) := fun b hb => by rw [← hgb]; exact (hpl.ne hb).2.2
     have HBP : Hid (pb < gb) := by unfold Hid; rw [← hgb]; exact (World.ownsRow.lt hpl.own pb rfl).2
     clear hpl hx hsh hx1 hxw hwk d0 hwD hz1 g0 hps2
     go_upto_region 10 with fail
     rw [← hW1]
     clear hW1 c1 d1 hgb
     go_wp2
     clear c2
     obtain ⟨wq, rfl⟩ : ∃ wq : World, wq = wr := ⟨_, rfl⟩
     go_loopw [12, 41] (fun o j wz => ∃ k : Nat, k ≤ ls.length ∧ j = .int .i64 (k : Int) ∧ wz.ownsRow (gb + 1) 3 1 o (setL k set).length (((setL k set).map fun i : Nat => (i : Int)).map (.int .i64)) ∧ (o = .slice none 0 0 ∨ 0 < (setL k set).length) ∧ Ext W1 wz) (fun _ j _ => ls.length - (intOf j).toNat)
     case atStart => exact ⟨0, Nat.zero_le _, rfl, by simp [setL]; exact World.ownsRow_nil _ _ _ _, .inl rfl, Ext.refl _⟩
     case round =>
      obtain ⟨k, hk, rfl, hown, hnn, hx⟩ := hrel
      by_cases hlt3 : k < ls.length
      ·have i3 : (0 : Int) ≤ (k : Int) := by omega
       have i4 : (k : Int) < (ls.length : Int) := by omega
       have HHA := Lib.hid (fun W1 => has_any set k W1 (by omega) (by omega))
       have HPU := Lib.hid (natsL_push (k := k) (set := set))
       have hll := setL_len k set
       have HLN : Hid ((setL (k + 1) set).length = (setL k set).length + (if set.testBit k then 1 else 0)) := by
        have h := congrArg List.length HPU.out
        rw [List.length_append, List.length_map, List.length_map] at h
        unfold Hid
        rw [h]
        cases set.testBit k <;> rfl
       have HOWN := Lib.hid hown
       have HNN := Lib.hid hnn
       have HX := Lib.hid hx
       have HSZ := Lib.hid (show (setL k set).length + 1 ≤ maxLen ∧ ((setL k set).length + 1) * 8 ≤ 140737488355328 by unfold maxLen; omega)
       have hbz : gb + 1 ≤ wr.heap.size := by have := hx.size; have := HZ1.out; omega
       obtain ⟨_, _, rfl, _⟩ := RowAt.open (RowAt.of_owns hown)
       clear hown hnn hx hll
       cases hb : set.testBit k with
       | true =>
        rw [hb] at HHA HPU HLN
        clear hb
        go_wp2_with (first
         | (go_at_call 86; refine (HHA.out _).mono ?_; rintro e w2 ⟨rfl, rfl⟩)
         | (at_builtin; refine wpList_push_at E_ints rfl _ _ rfl (gb + 1) rfl HOWN.out rfl (by simp) rfl (by simp [Value.oneCell']) ?_ HSZ.out.1 HSZ.out.2 hbz; intro g9 cap9 w9 hown9 hext9 hg9 hloc9))
        go_roundw
        case rel => exact ⟨k + 1, by omega, by go_num, by rw [HLN.out, HPU.out, List.map_append]; exact hown9, .inr (by rw [HLN.out]; simp), hext9 _ HX.out (Nat.le_of_eq HZ1.out)⟩
        case measure => simp [intOf]; omega
       | false =>
        rw [hb] at HHA HPU HLN
        clear hb
        go_wp2_with (go_at_call 86; refine (HHA.out _).mono ?_; rintro e w2 ⟨rfl, rfl⟩)
        go_roundw
        case rel => exact ⟨k + 1, by omega, by go_num, by rw [HLN.out, HPU.out]; simpa using HOWN.out, by rw [HLN.out]; exact HNN.out, HX.out⟩
        case measure => simp [intOf]; omega
      ·have hke : k = ls.length := by omega
       rw [hke] at hown hnn
       have hll := setL_len ls.length set
       have hord0 : OrdAt wr u12 ((setL ls.length set).map fun i : Nat => (i : Int)) := OrdAt.of_owns (base := gb + 1) (by rw [List.length_map]; exact hown) (by rw [List.length_map]; exact hnn)
       have hbk : ∀ q, u12.ownBlock = some q → gb + 1 ≤ q := fun q hq => owns_block hown q hq
       have HBK := Lib.hid hbk
       have HRV := Lib.hid (rev_any u12 _ wr hord0 (by rw [List.length_map]; omega))
       rw [← List.map_reverse] at HRV
       have HST := Lib.hid (fun (w2 : World) (h : Ext W1 w2) (hv : OrdAt w2 u12 ((setL ls.length set).reverse.map fun i : Nat => (i : Int))) => stable_any w.heap.size gb u12 ls wants G set W1 w2 HS.out HPR.out h hv (fun q hq => by rw [HZ1.out]; exact HBK.out q hq))
       have HX := Lib.hid hx
       obtain ⟨oa, on, oc, rfl⟩ : ∃ a n c, u12 = .slice a n c := by obtain ⟨a, c, h, _⟩ := RowAt.open (RowAt.of_owns hown); exact ⟨_, _, _, h⟩
       have hmf : ∀ (fn : Fn) (first cap : Array Value) (w : World), (Instr.makeFunc fn first cap).run Tryz.prog w = .ok (.func fn first cap) w := fun _ _ _ _ => rfl
       clear hown hnn hx hord0 hbk hke hll
       go_upto_region 19 with (first
        | (go_at_call 99; refine HRV.out.mono ?_; rintro e w2 ⟨rfl, hT2, ho2⟩; have hx2 : Ext W1 w2 := Touch.ext HX.out hT2 (fun q hq => by rw [HZ1.out]; exact HBK.out q hq))
        | (go_at_call 100; refine (HST.out _ hx2 ho2).mono ?_; rintro e w3 ⟨rfl, hT3, ho3⟩; have hx3 : Ext W1 w3 := Touch.ext hx2 hT3 (fun q hq => by rw [HZ1.out]; exact HBK.out q hq)))
       obtain ⟨O, hO⟩ : ∃ O, orderL (pricesOf ls G) ls.length set = O := ⟨_, rfl⟩
       have hOs := order_spec (pricesOf ls G) ls.length set
       rw [hO] at ho3 hOs
       have hOl4 : O.length ≤ 4 := by
        have := List.Nodup.length_le_of_subset (l₂ := List.range ls.length) hOs.1 (fun x hx => List.mem_range.2 ((hOs.2.2 x).1 hx).1)
        simp at this
        omega
       have hoi := ho3.ints
       have hoff : ∀ a n c, (Value.slice oa on oc) = .slice (some a) n c → gb + 1 ≤ a.block := fun a n c he => by cases he; exact HBK.out a.block rfl
       have HOFF := Lib.hid hoff
       obtain ⟨oc2, hon, hve, _⟩ : ∃ c2, on = O.length ∧ oc = c2 ∧ True := by
        obtain ⟨_, _, hve, _⟩ := hoi.open
        cases hve
        exact ⟨_, by simp, rfl, trivial⟩
       subst hon
       clear hve
       have HOI := Lib.hid hoi
       have HPL3 := Lib.hid (HPL1.out.ext hx3)
       have HX3 := Lib.hid hx3
       have HON := Lib.hid hOs
       have HOL := Lib.hid hO
       clear ho3 hO hOs hoi hoff hx2 hx3 hT2 hT3 ho2 hmf HRV HST
       obtain ⟨S, hSS⟩ : ∃ S, stocksOf ls G = S := ⟨_, rfl⟩
       have hcol : colB ls set G (wants.getD G 0) = greedyL S O lf0 (List.replicate ls.length 0) := by unfold colB; rw [hSS, HOL.out, HWD.out]
       have HCOL := Lib.hid hcol
       have hsn : ∀ i, 0 ≤ S.getD i 0 := fun i => by rw [← hSS]; exact stock_nonneg HS.out G i
       have HSN := Lib.hid hsn
       have HSS := Lib.hid hSS
       clear hcol hsn hSS
       go_wp2
       obtain ⟨ws, rfl⟩ : ∃ ws : World, ws = w3 := ⟨_, rfl⟩
       go_loopw [11, 59] (fun lf j wz => ∃ k : Nat, k ≤ O.length ∧ j = .int .i64 (k : Int) ∧ lf = .int .i64 (greedyL S (O.take k) lf0 (List.replicate ls.length 0)).2 ∧ PlanI pb ls.length wants.length wz pb rbs (planCol ls wants set G (greedyL S (O.take k) lf0 (List.replicate ls.length 0)).1) ∧ Touch (fun q => q ∈ rbs) ws wz) (fun _ j _ => O.length - (intOf j).toNat)
       case atStart => exact ⟨0, Nat.zero_le _, rfl, rfl, HPL3.out, Touch.refl _ _⟩
       case round =>
        obtain ⟨k, hk, rfl, rfl, hpl, hT⟩ := hrel
        have hxW : Ext W wr := Touch.ext (HX1.out.trans HX3.out) hT (fun q hq => by rw [HM.out]; exact (hpl.ne hq).2.1)
        have hxw := HX0.out.trans hxW
        have c0 := HC.out _ hxW
        have c2 := hT.cell (HX3.out.cell HG0.out) (fun h => by have := HBL.out _ h; simp only at this; omega)
        obtain ⟨lf, hlf⟩ : ∃ lf, (greedyL S (O.take k) lf0 (List.replicate ls.length 0)).2 = lf := ⟨_, rfl⟩
        obtain ⟨C, hC⟩ : ∃ C, (greedyL S (O.take k) lf0 (List.replicate ls.length 0)).1 = C := ⟨_, rfl⟩
        have hlfb := greedy_left S (O.take k) lf0 (List.replicate ls.length 0) hlb.1 HSN.out
        have hCl : C.length = ls.length := by rw [← hC, greedy_len]; simp
        rw [hlf] at hlfb
        rw [hC] at hpl
        rw [hlf]
        by_cases hlt3 : k < O.length
        ·obtain ⟨i, hik⟩ : ∃ i, O[k]? = some i := ⟨_, List.getElem?_eq_getElem hlt3⟩
         have hil : i < ls.length := ((HON.out.2.2 i).1 (List.mem_of_getElem? hik)).1
         have hoi := ints_touch HOI.out hT (fun a n c he hq => by have h1 := HOFF.out a n c he; have h2 := HBL.out _ hq; omega)
         obtain ⟨_, _, hve, _, _, o3⟩ := hoi.open
         simp only [List.length_map] at hve
         cases hve
         obtain ⟨ob, oo, ox, rfl, hox, o0⟩ := o3 k (by simpa using hlt3)
         rw [List.getElem?_map, hik] at hox
         obtain rfl : ox = (i : Int) := by have h := hox.out; simp at h; exact h.symm
         obtain ⟨lb, lo, s, sa, sc, qa, qc, rfl, hsk, _, e1', _, hst, _⟩ := HL3.out i hil
         have hso := HS.out.one s (List.mem_of_getElem? hsk.out)
         obtain ⟨_, _, hve, _, _, s3⟩ := hst.open
         cases hve
         obtain ⟨sb, so, st, rfl, hstk, s0⟩ := s3 G (by omega)
         have hstb := hso.2.2.2.1 st (List.mem_of_getElem? hstk.out)
         have hSi : S.getD i 0 = st := by
          rw [← HSS.out]
          unfold stocksOf
          rw [List.getD_eq_getElem?_getD, List.getElem?_map, hsk.out]
          show s.stock.getD G 0 = st
          rw [List.getD_eq_getElem?_getD, hstk.out]; rfl
         have c1 := hxw.cell e1'
         have c3 := hxw.cell s0
         have hsG : (G : Int) < (s.stock.length : Int) := by omega
         obtain ⟨sn, hsn⟩ : ∃ sn, s.stock.length = sn := ⟨_, rfl⟩
         rw [hsn] at c1 hsG
         have i3 : (0 : Int) ≤ (i : Int) := by omega
         have i4 : (i : Int) < (ls.length : Int) := by omega
         have i5 : (0 : Int) ≤ (k : Int) := by omega
         have i6 : (k : Int) < (O.length : Int) := by omega
         obtain ⟨rb, hrb⟩ : ∃ rb, rbs[i]? = some rb := ⟨_, List.getElem?_eq_getElem (by rw [HRL.out]; exact hil)⟩
         obtain ⟨r, hr⟩ : ∃ r, (planCol ls wants set G C)[i]? = some r := ⟨_, planCol_at hil⟩
         have hrow := hpl.row i rb r hrb hr
         have e0 : wr.cell? ⟨pb, i, none⟩ = some (.slice (some ⟨rb, 0, none⟩) wants.length wants.length) := by
          rw [hpl.own.cellAt i (by omega), List.getElem?_append_left (by rw [List.length_map, HRL.out]; exact hil), List.getElem?_map, hrb]; rfl
         obtain ⟨old, hold⟩ : ∃ old, r[G]? = some old := ⟨_, List.getElem?_eq_getElem (by rw [hrow.1]; exact hlt2)⟩
         have e1 : wr.cell? ⟨rb, G, none⟩ = some (.int .i64 old) := by rw [hrow.2.cellAt G (by omega), List.getElem?_map, hold]; rfl
         have e2 := hrow.2.frozenAt G
         have hgp := greedy_push S lf0 (List.replicate ls.length 0) hik
         rw [hlf, hC, hSi] at hgp
         obtain ⟨mn, hmn⟩ : ∃ mn, min lf st = mn := ⟨_, rfl⟩
         have hmb : 0 ≤ mn ∧ mn ≤ lf := by rw [← hmn]; omega
         rw [hmn] at hgp
         have hset := hpl.set hrb hr mn (g := G)
         rw [planCol_set mn hil hCl hr] at hset
         have HGP := Lib.hid hgp
         have HSET := Lib.hid hset
         have hTs : Touch (fun q => q ∈ rbs) ws (wr.setCell ⟨rb, G, none⟩ (.int .i64 mn)) := hT.trans (Touch.setCell _ (List.mem_of_getElem? hrb))
         have HTS := Lib.hid hTs
         have hwl : IntKind.i64.wrap (lf - mn) = lf - mn := IntWalk.i64_in _ (by omega)
         have HMN := Lib.hid hmn
         clear hoi o3 hox hik hsk e1' hst hso s3 hstk s0 hSi hsn hrb hr hrow hold hgp hset hTs hT hpl hxW hxw hlf hC hCl
         go_upto_region 22 with fail
         refine wp_region_noPanic ?_
         refine wp_region_any (by kernel_rfl) (wpAny_of_till (z := 10) (S := (fun w' => w'.cell? ⟨w.heap.size, 0, none⟩ = some (.slice (some ⟨lb, lo, none⟩) ls.length lc) ∧ w'.cell? ⟨lb, lo + i * 3 + 1, none⟩ = some (.slice (some ⟨sb, so, none⟩) sn sc) ∧ w'.cell? ⟨gb, 0, none⟩ = some (.int .i64 (G : Int)) ∧ w'.cell? ⟨sb, so + G, none⟩ = some (.int .i64 st))) _ _ _ _ ?_)
         change wpTill _ _ _ _ _ _ _ _ _ wr.drew
         have hS0 := (show (World.drew wr).cell? ⟨w.heap.size, 0, none⟩ = some (.slice (some ⟨lb, lo, none⟩) ls.length lc) ∧ (World.drew wr).cell? ⟨lb, lo + i * 3 + 1, none⟩ = some (.slice (some ⟨sb, so, none⟩) sn sc) ∧ (World.drew wr).cell? ⟨gb, 0, none⟩ = some (.int .i64 (G : Int)) ∧ (World.drew wr).cell? ⟨sb, so + G, none⟩ = some (.int .i64 st) from ⟨c0, c1, c2, c3⟩)
         refine till_at (i := 0) (d := some 63) (v := ?_) (by kernel_rfl) (by kernel_rfl) (by kernel_rfl) (by kernel_rfl) (by kernel_rfl) (fun _ _ _ h => h) (fun o ho => ?_) hS0 ?_
         rotate_left
         ·simp only [zA, zB, zD] at ho
          subst ho
          refine Or.inl ⟨by rfl, fun w' hSw => ?_⟩
          obtain ⟨hSw0, hSw1, hSw2, hSw3⟩ := hSw
          go_simp
          try with_reducible rfl
         try simp only [Act.put, yA, yB, yC]
         refine till_at (i := 1) (d := some 64) (v := ?_) (by kernel_rfl) (by kernel_rfl) (by kernel_rfl) (by kernel_rfl) (by kernel_rfl) (fun _ _ _ h => h) (fun o ho => ?_) hS0 ?_
         rotate_left
         ·simp only [zA, zB, zC, zD] at ho
          subst ho
          refine Or.inl ⟨by rfl, fun w' hSw => ?_⟩
          obtain ⟨hSw0, hSw1, hSw2, hSw3⟩ := hSw
          go_simp
          try with_reducible rfl
         try simp only [Act.put, yA, yB, yC]
         refine till_at (i := 2) (d := some 65) (v := ?_) (by kernel_rfl) (by kernel_rfl) (by kernel_rfl) (by kernel_rfl) (by kernel_rfl) (fun _ _ _ h => h) (fun o ho => ?_) hS0 ?_
         rotate_left
         ·simp only [zA, zB, zC, zD] at ho
          subst ho
          refine Or.inl ⟨by rfl, fun w' hSw => ?_⟩
          obtain ⟨hSw0, hSw1, hSw2, hSw3⟩ := hSw
          go_simp
          try with_reducible rfl
         try simp only [Act.put, yA, yB, yC]
         refine till_at (i := 3) (d := some 66) (v := ?_) (by kernel_rfl) (by kernel_rfl) (by kernel_rfl) (by kernel_rfl) (by kernel_rfl) (fun _ _ _ h => h) (fun o ho => ?_) hS0 ?_
         rotate_left
         ·simp only [zA, zB, zC, zD] at ho
          subst ho
          refine Or.inl ⟨by rfl, fun w' hSw => ?_⟩
          obtain ⟨hSw0, hSw1, hSw2, hSw3⟩ := hSw
          go_simp
          try with_reducible rfl
         try simp only [Act.put, yA, yB, yC]
         refine till_at (i := 4) (d := some 67) (v := ?_) (by kernel_rfl) (by kernel_rfl) (by kernel_rfl) (by kernel_rfl) (by kernel_rfl) (fun _ _ _ h => h) (fun o ho => ?_) hS0 ?_
         rotate_left
         ·simp only [zA, zB, zC, zD] at ho
          subst ho
          refine Or.inl ⟨by rfl, fun w' hSw => ?_⟩
          obtain ⟨hSw0, hSw1, hSw2, hSw3⟩ := hSw
          go_simp
          try with_reducible rfl
         try simp only [Act.put, yA, yB, yC]
         refine till_at (i := 5) (d := some 68) (v := ?_) (by kernel_rfl) (by kernel_rfl) (by kernel_rfl) (by kernel_rfl) (by kernel_rfl) (fun _ _ _ h => h) (fun o ho => ?_) hS0 ?_
         rotate_left
         ·simp only [zA, zB, zC, zD] at ho
          subst ho
          refine Or.inl ⟨by rfl, fun w' hSw => ?_⟩
          obtain ⟨hSw0, hSw1, hSw2, hSw3⟩ := hSw
          go_simp
          try with_reducible rfl
         try simp only [Act.put, yA, yB, yC]
         refine till_at (i := 6) (d := some 69) (v := ?_) (by kernel_rfl) (by kernel_rfl) (by kernel_rfl) (by kernel_rfl) (by kernel_rfl) (fun _ _ _ h => h) (fun o ho => ?_) hS0 ?_
         rotate_left
         ·simp only [zA, zB, zC, zD] at ho
          subst ho
          refine Or.inl ⟨by rfl, fun w' hSw => ?_⟩
          obtain ⟨hSw0, hSw1, hSw2, hSw3⟩ := hSw
          go_simp
          try with_reducible rfl
         try simp only [Act.put, yA, yB, yC]
         refine till_at (i := 7) (d := some 70) (v := ?_) (by kernel_rfl) (by kernel_rfl) (by kernel_rfl) (by kernel_rfl) (by kernel_rfl) (fun _ _ _ h => h) (fun o ho => ?_) hS0 ?_
         rotate_left
         ·simp only [zA, zB, zC, zD] at ho
          subst ho
          refine Or.inl ⟨by rfl, fun w' hSw => ?_⟩
          obtain ⟨hSw0, hSw1, hSw2, hSw3⟩ := hSw
          go_simp
          try with_reducible rfl
         try simp only [Act.put, yA, yB, yC]
         refine till_at (i := 8) (d := some 71) (v := ?_) (by kernel_rfl) (by kernel_rfl) (by kernel_rfl) (by kernel_rfl) (by kernel_rfl) (fun _ _ _ h => h) (fun o ho => ?_) hS0 ?_
         rotate_left
         ·simp only [zA, zB, zC, zD] at ho
          subst ho
          refine Or.inl ⟨by rfl, fun w' hSw => ?_⟩
          obtain ⟨hSw0, hSw1, hSw2, hSw3⟩ := hSw
          go_simp
          try with_reducible rfl
         try simp only [Act.put, yA, yB, yC]
         refine till_at (i := 9) (d := some 72) (v := ?_) (by kernel_rfl) (by kernel_rfl) (by kernel_rfl) (by kernel_rfl) (by kernel_rfl) (fun _ _ _ h => h) (fun o ho => ?_) hS0 ?_
         rotate_left
         ·simp only [zA, zB, zC, zD] at ho
          subst ho
          refine Or.inl ⟨by rfl, fun w' hSw => ?_⟩
          obtain ⟨hSw0, hSw1, hSw2, hSw3⟩ := hSw
          go_simp
          try with_reducible rfl
         try simp only [Act.put, yA, yB, yC]
         refine till_step (i := 10) (by kernel_rfl) (by kernel_rfl) (fun o ho K' hK => ?_)
         simp only [zA, zB, zC, zD] at ho
         subst ho
         go_simp
         refine hK.out _ _ (fun h => absurd rfl h) (fun _ => ?_)
         clear hK K'
         try simp only [Act.put, yA, yB, yC]
         refine till_done (by kernel_rfl) ?_ _
         refine NoPanic.normal ?_
         try simp only [Act.put, yA, yB, yC]
         go_upto_region 23 with fail
         obtain ⟨WD, hWD⟩ : ∃ WD, WD = wr.drew := ⟨_, rfl⟩
         have hxd : Ext wr WD := by rw [hWD]; exact (Ext.refl wr).drew
         replace e2 := (hxd.frozen (lt_of_cell e1)).trans e2
         replace e0 := hxd.cell e0
         replace e1 := hxd.cell e1
         replace c2 := hxd.cell c2
         have HWD2 := Lib.hid hWD
         rw [← hWD]
         clear hS0 hWD hxd c0 c1 c3
         refine wp_region_noPanic ?_
         refine wp_region_any (by kernel_rfl) (wpAny_of_till (z := 7) (S := (fun w' => w'.cell? ⟨pb, i, none⟩ = some (.slice (some ⟨rb, 0, none⟩) wants.length wants.length) ∧ w'.cell? ⟨gb, 0, none⟩ = some (.int .i64 (G : Int)) ∧ w'.cell? ⟨rb, G, none⟩ = some (.int .i64 old) ∧ w'.frozen? ⟨rb, G, none⟩ = false)) _ _ _ _ ?_)
         change wpTill _ _ _ _ _ _ _ _ _ WD.drew
         have hS0 := (show (World.drew WD).cell? ⟨pb, i, none⟩ = some (.slice (some ⟨rb, 0, none⟩) wants.length wants.length) ∧ (World.drew WD).cell? ⟨gb, 0, none⟩ = some (.int .i64 (G : Int)) ∧ (World.drew WD).cell? ⟨rb, G, none⟩ = some (.int .i64 old) ∧ (World.drew WD).frozen? ⟨rb, G, none⟩ = false from ⟨e0, c2, e1, e2⟩)
         refine till_at (i := 0) (d := some 73) (v := ?_) (by kernel_rfl) (by kernel_rfl) (by kernel_rfl) (by kernel_rfl) (by kernel_rfl) (fun _ _ _ h => h) (fun o ho => ?_) hS0 ?_
         rotate_left
         ·simp only [zA, zB, zD] at ho
          subst ho
          refine Or.inl ⟨by rfl, fun w' hSw => ?_⟩
          obtain ⟨hSw0, hSw1, hSw2, hSw3⟩ := hSw
          go_simp
          try with_reducible rfl
         try simp only [Act.put, yA, yB, yC]
         refine till_at (i := 1) (d := some 74) (v := ?_) (by kernel_rfl) (by kernel_rfl) (by kernel_rfl) (by kernel_rfl) (by kernel_rfl) (fun _ _ _ h => h) (fun o ho => ?_) hS0 ?_
         rotate_left
         ·simp only [zA, zB, zC, zD] at ho
          subst ho
          refine Or.inl ⟨by rfl, fun w' hSw => ?_⟩
          obtain ⟨hSw0, hSw1, hSw2, hSw3⟩ := hSw
          go_simp
          try with_reducible rfl
         try simp only [Act.put, yA, yB, yC]
         refine till_at (i := 2) (d := some 75) (v := ?_) (by kernel_rfl) (by kernel_rfl) (by kernel_rfl) (by kernel_rfl) (by kernel_rfl) (fun _ _ _ h => h) (fun o ho => ?_) hS0 ?_
         rotate_left
         ·simp only [zA, zB, zC, zD] at ho
          subst ho
          refine Or.inl ⟨by rfl, fun w' hSw => ?_⟩
          obtain ⟨hSw0, hSw1, hSw2, hSw3⟩ := hSw
          go_simp
          try with_reducible rfl
         try simp only [Act.put, yA, yB, yC]
         refine till_at (i := 3) (d := some 76) (v := ?_) (by kernel_rfl) (by kernel_rfl) (by kernel_rfl) (by kernel_rfl) (by kernel_rfl) (fun _ _ _ h => h) (fun o ho => ?_) hS0 ?_
         rotate_left
         ·simp only [zA, zB, zC, zD] at ho
          subst ho
          refine Or.inl ⟨by rfl, fun w' hSw => ?_⟩
          obtain ⟨hSw0, hSw1, hSw2, hSw3⟩ := hSw
          go_simp
          try with_reducible rfl
         try simp only [Act.put, yA, yB, yC]
         refine till_at (i := 4) (d := some 77) (v := ?_) (by kernel_rfl) (by kernel_rfl) (by kernel_rfl) (by kernel_rfl) (by kernel_rfl) (fun _ _ _ h => h) (fun o ho => ?_) hS0 ?_
         rotate_left
         ·simp only [zA, zB, zC, zD] at ho
          subst ho
          refine Or.inl ⟨by rfl, fun w' hSw => ?_⟩
          obtain ⟨hSw0, hSw1, hSw2, hSw3⟩ := hSw
          go_simp
          try with_reducible rfl
         try simp only [Act.put, yA, yB, yC]
         refine till_at (i := 5) (d := some 78) (v := ?_) (by kernel_rfl) (by kernel_rfl) (by kernel_rfl) (by kernel_rfl) (by kernel_rfl) (fun _ _ _ h => h) (fun o ho => ?_) hS0 ?_
         rotate_left
         ·simp only [zA, zB, zC, zD] at ho
          subst ho
          refine Or.inl ⟨by rfl, fun w' hSw => ?_⟩
          obtain ⟨hSw0, hSw1, hSw2, hSw3⟩ := hSw
          go_simp
          try with_reducible rfl
         try simp only [Act.put, yA, yB, yC]
         refine till_at (i := 6) (d := some 79) (v := ?_) (by kernel_rfl) (by kernel_rfl) (by kernel_rfl) (by kernel_rfl) (by kernel_rfl) (fun _ _ _ h => h) (fun o ho => ?_) hS0 ?_
         rotate_left
         ·simp only [zA, zB, zC, zD] at ho
          subst ho
          refine Or.inl ⟨by rfl, fun w' hSw => ?_⟩
          obtain ⟨hSw0, hSw1, hSw2, hSw3⟩ := hSw
          go_simp
          try with_reducible rfl
         try simp only [Act.put, yA, yB, yC]
         refine till_step (i := 7) (by kernel_rfl) (by kernel_rfl) (fun o ho K' hK => ?_)
         simp only [zA, zB, zC, zD] at ho
         subst ho
         go_simp
         refine hK.out _ _ (fun h => absurd rfl h) (fun _ => ?_)
         clear hK K'
         try simp only [Act.put, yA, yB, yC]
         refine till_done (by kernel_rfl) ?_ _
         refine NoPanic.normal ?_
         try simp only [Act.put, yA, yB, yC]
         go_wp2
         go_roundw
         case rel =>
          rw [HWD2.out]
          have h1 := (HSET.out.ext (Ext.refl _).drew).ext (Ext.refl _).drew
          have h2 := (HTS.out.trans (Touch.of_ext (Ext.refl _).drew)).trans (Touch.of_ext (Ext.refl _).drew)
          refine ⟨k + 1, by omega, by go_num, by rw [HGP.out], by rw [HGP.out]; exact h1, h2⟩
         case measure => simp [intOf]; omega
        ·have hke : O.take k = O := List.take_of_length_le (by omega)
         rw [hke] at hlf hC
         have hc2 : (colB ls set G (wants.getD G 0)).2 = lf := by rw [HCOL.out, hlf]
         have hc1 : (colB ls set G (wants.getD G 0)).1 = C := by rw [HCOL.out, hC]
         have hsx := shortTo_succ ls wants set G
         rw [hc2, HSH.out, Bool.false_or] at hsx
         have hnx := planCol_next ls wants set G
         rw [hc1] at hnx
         rw [hnx] at hpl
         have HPLN := Lib.hid hpl
         have HXW := Lib.hid hxW
         have hpw : pb ≤ wr.heap.size := by rw [← HM.out]; exact hxW.size
         clear hpl hT hxW hxw hlf hC hCl hke hc2 hc1 hnx c0 c2
         by_cases hlf0 : 0 < lf
         ·have t1 : decide (0 < lf) = true := by simpa using hlf0
          rw [t1] at hsx
          have HZ := Lib.hid (from_none (show G + 1 ≤ wants.length by omega) hsx)
          clear hsx hlf0
          go_wp2
          go_ret2
          exact HNO.out _ HZ.out (HX0.out.trans HXW.out)
         ·have t1 : decide (0 < lf) = false := by simpa using hlf0
          rw [t1] at hsx
          have HZ := Lib.hid hsx
          clear hsx hlf0
          go_wp2
          go_roundw
          case rel => exact ⟨G + 1, by omega, by go_num, HZ.out, HPLN.out, HXW.out, hpw⟩
          case measure => simp [intOf]; omega
    ·have hge : G = wants.length := by omega
     rw [hge] at hsh hpl
     rw [planCol_all] at hpl
     have HZ := Lib.hid (from_yes hsh.out)
     have hra : PlanAt wr (.slice (some ⟨pb, 0, none⟩) ls.length ls.length) (planOf ls wants set) := ⟨pb, rbs, _, _, rfl, HRL.out, plan_len _ _ _, hpl.lower⟩
     have HRA := Lib.hid hra
     have HXW := Lib.hid (HX0.out.trans hx)
     clear hsh hpl hx hge c1 hra
     go_wp2
     go_ret2
     exact HYES.out _ _ _ HZ.out HXW.out HRA.out
end Go.Proofs.YtokananogogjaaaGreatDoor

/- Buy. -/
namespace Go.Proofs.YtokananogogjaaaGreatDoor
open Go.RowKit
theorem E_boughts : Elem Tryz.prog 127 132 3 40 (.agg #[.slice none 0 0, .int .i64 0, .int .i64 0]) := by
 obtain ⟨i, h1, h2, h3, h4⟩ := info_parts (P := Tryz.prog) (e := 132) (z := .agg #[.slice none 0 0, .int .i64 0, .int .i64 0]) (size := 3) (bytes := 40) (by kernel_rfl)
 exact ⟨Tryz.underlying127, ⟨i, h1, h2, h3, h4⟩, rfl, by decide⟩
theorem owns_notrows {W : World} {base : Nat} {v : Value} {n : Nat} {xs : List Value} (h : W.ownsRow base 132 3 v n xs) : NotRows W (fun g => v.ownBlock = some g) := by
 intro g hg cur fr
 obtain ⟨_, ⟨rfl, _⟩ | ⟨g', cap, cur', rfl, _, hh, _⟩⟩ := h
 ·cases hg
 ·cases hg
  exact ⟨(fun e => by rw [hh] at e; cases e), (fun e => by rw [hh] at e; cases e)⟩
def BuyRes (ls : List Seller) (wants : List Int) (w : World) (e : Ending) (w' : World) : Prop :=
 Ext w w' ∧ ((areSellersB ls wants = false ∧ e = .returned (.tuple #[.slice none 0 0, .int .i64 0, .int .i64 2])) ∨ (areSellersB ls wants = true ∧ buyB ls wants = none ∧ e = .returned (.tuple #[.slice none 0 0, .int .i64 0, .int .i64 5])) ∨
  (areSellersB ls wants = true ∧ ∃ x v, buyB ls wants = some x ∧ e = .returned (.tuple #[v, .int .i64 x.2.1, .int .i64 0]) ∧ IntRowsAt w' v x.1))
def boughtTo (ls : List Seller) (wants : List Int) (k : Nat) : List Bought := (List.range k).filterMap (boughtOf ls wants)
theorem boughtTo_none {ls : List Seller} {wants : List Int} {k : Nat} (h : fromB ls wants k = none) : boughtTo ls wants (k + 1) = boughtTo ls wants k := by
 unfold boughtTo; rw [boughtL_to]; unfold boughtOf; rw [h]; simp
theorem boughtTo_some {ls : List Seller} {wants : List Int} {k : Nat} {p : List (List Int)} (h : fromB ls wants k = some p) : boughtTo ls wants (k + 1) = boughtTo ls wants k ++ [(p, costsB ls p, sellersOf p)] := by
 unfold boughtTo; rw [boughtL_to]; unfold boughtOf; rw [h]; rfl
theorem boughtTo_len (ls : List Seller) (wants : List Int) (k : Nat) : (boughtTo ls wants k).length ≤ k := by
 unfold boughtTo
 exact Nat.le_trans (List.length_filterMap_le _ _) (by simp)
/-- The purchases so far. -/
structure BuyI (ls : List Seller) (wants : List Int) (w : World) (k : Nat) (o : Value) (W : World) (qs : List BtR) : Prop where
 x : Ext w W
 own : W.ownsRow w.heap.size 132 3 o qs.length (qs.flatMap btrC)
 rs : qs.map BtR.p = boughtTo ls wants k
 ms : ∀ q, q ∈ qs → PlanAt W q.v q.p.1
theorem BuyI.ext {ls : List Seller} {wants : List Int} {w : World} {k : Nat} {o : Value} {W W' : World} {qs : List BtR} (h : BuyI ls wants w k o W qs) (x : Ext W W') : BuyI ls wants w k o W' qs :=
 ⟨h.x.trans x, owns_ext h.own x, h.rs, fun q hq => (h.ms q hq).ext x⟩
theorem BuyI.push {ls : List Seller} {wants : List Int} {w : World} {k : Nat} {o : Value} {W W5 : World} {qs : List BtR} {g cap : Nat} {x : BtR} {ds : Array Value} {e' : TypeId} (h : BuyI ls wants w k o W qs) (hx : PlanAt W x.v x.p.1) (hc : boughtTo ls wants (k + 1) = boughtTo ls wants k ++ [x.p])
 (hown5 : W5.ownsRow w.heap.size 132 3 (.slice (some ⟨g, 0, none⟩) (qs.length + 1) cap) (qs.length + 1) (qs.flatMap btrC ++ btrC x)) (hg5 : (W.alloc (.cells ds e')).grownBy W5 o.ownBlock) :
 BuyI ls wants w (k + 1) (.slice (some ⟨g, 0, none⟩) (qs.length + 1) cap) W5 (qs ++ [x]) := by
 have hT : Touch (fun j => o.ownBlock = some j) W W5 := (Touch.of_ext ((Ext.refl W).alloc _)).trans (Touch.grown hg5 (fun k hk => hk))
 have hn := owns_notrows h.own
 refine ⟨Touch.ext h.x hT (fun j hj => owns_block h.own j hj), ?_, ?_, fun q hq => ?_⟩
 ·rw [List.length_append, List.flatMap_append]
  simpa using hown5
 ·rw [List.map_append, h.rs, hc]; rfl
 ·rcases List.mem_append.1 hq with hq | hq
  ·exact (h.ms q hq).touch hT hn
  ·rw [List.mem_singleton] at hq
   subst hq
   exact hx.touch hT hn
set_option maxRecDepth 100000 in
set_option maxHeartbeats 16000000 in
theorem Buy_any (lv wv : Value) (ls : List Seller) (wants : List Int) (w : World) (hl : SellersAt w lv ls) (hw : IntsAt w wv wants) :
 Calls Tryz.prog 36 #[lv, wv] w (BuyRes ls wants w) := by
 have hmix : Tryz.prog.follows .mixedOrders = true := by kernel_rfl
 have HAR := Lib.hid (areSellers_any lv wv ls wants w hl hw)
 have HL := Lib.hid (fun (W1 : World) (h : Ext w W1) => (⟨hl.ext h, hw.ext h⟩ : _ ∧ _))
 obtain ⟨la, lc, rfl, _⟩ := hl.open
 obtain ⟨wa, wc, rfl, _⟩ := hw.open
 have hr0 : ∀ w', areSellersB ls wants = false → Ext w w' → BuyRes ls wants w (.returned (.tuple #[.slice none 0 0, .int .i64 0, .int .i64 2])) w' := fun w' h hx => ⟨hx, .inl ⟨h, rfl⟩⟩
 have hr1 : ∀ w', areSellersB ls wants = true → buyB ls wants = none → Ext w w' → BuyRes ls wants w (.returned (.tuple #[.slice none 0 0, .int .i64 0, .int .i64 5])) w' := fun w' h h2 hx => ⟨hx, .inr (.inl ⟨h, h2, rfl⟩)⟩
 have hr2 : ∀ w' x v, areSellersB ls wants = true → buyB ls wants = some x → Ext w w' → IntRowsAt w' v x.1 → BuyRes ls wants w (.returned (.tuple #[v, .int .i64 x.2.1, .int .i64 0])) w' := fun w' x v h h2 hx h3 => ⟨hx, .inr (.inr ⟨h, x, v, h2, rfl, h3⟩)⟩
 have HR0 := Lib.hid hr0
 have HR1 := Lib.hid hr1
 have HR2 := Lib.hid hr2
 clear hl hw hr0 hr1 hr2
 cases i1 : areSellersB ls wants with
 | false =>
  have HZ := Lib.hid i1
  rw [i1] at HAR
  clear i1
  go_enter Tryz.func36, Tryz.ntmps36
  go_wp2
  refine wp_scope_straight ?_
  go_wp2_with (go_at_call 66; refine HAR.out.mono ?_; rintro e w1 ⟨rfl, hx1⟩)
  refine bodyPost_ret (v := .tuple #[.slice none 0 0, .int .i64 0, .int .i64 2]) (by simp [results, Tryz.results36, go_sem]) rfl ?_
  exact HR0.out _ HZ.out hx1
 | true =>
 have hS := sellers_of i1
 have HZ := Lib.hid i1
 rw [i1] at HAR
 have HS := Lib.hid hS
 have hn4 := hS.l4
 have hn1 := hS.l1
 have hp16 : 2 ^ ls.length ≤ 16 := Nat.pow_le_pow_right (n := 2) (by decide) (show ls.length ≤ 4 by omega)
 obtain ⟨M, hM⟩ : ∃ M : Nat, 2 ^ ls.length = M := ⟨_, rfl⟩
 have hMi : IntKind.i64.wrap ((2 : Int) ^ ls.length) = (M : Int) := by
  have e : ((2 : Int) ^ ls.length) = (M : Int) := by rw [← hM]; simp
  rw [e]; exact IntWalk.i64_in _ (by omega)
 rw [hM] at hp16
 have HM : Hid (boughtL ls wants = boughtTo ls wants M) := by unfold Hid boughtL boughtTo; rw [hM]
 clear i1 hS hM
 go_enter Tryz.func36, Tryz.ntmps36
 go_wp2
 refine wp_scope_straight ?_
 go_wp2_with (go_at_call 66; refine HAR.out.mono ?_; rintro e w1 ⟨rfl, hx1⟩)
 refine wp_label ?_
 have HX1 := Lib.hid hx1
 clear hx1
 go_wp2
 go_loopw [7, 23] (fun o j wr => ∃ (k : Nat) (qs : List BtR), k ≤ M ∧ j = .int .i64 (k : Int) ∧ (∃ a n c, o = .slice a n c) ∧ BuyI ls wants w1 k o wr qs) (fun _ j _ => M - (intOf j).toNat)
 case atStart => exact ⟨0, [], Nat.zero_le _, rfl, ⟨_, _, _, rfl⟩, Ext.refl _, World.ownsRow_nil _ _ _ _, rfl, fun q hq => by simp at hq⟩
 case round =>
  obtain ⟨k, qs, hk, rfl, ⟨va, vn, vc, rfl⟩, hbi⟩ := hrel
  obtain ⟨wo, rfl⟩ : ∃ wo : World, wo = wr := ⟨_, rfl⟩
  have hxw := HX1.out.trans hbi.x
  have HXW := Lib.hid hxw
  by_cases hlt : k < M
  ·have k1 : (0 : Int) ≤ (k : Int) := by omega
   have k2 : (k : Int) < (M : Int) := by omega
   have HFR0 := Lib.hid (from_any _ _ ls wants k wo HS.out (by omega) (HL.out wo hxw).1 (HL.out wo hxw).2)
   have HBI := Lib.hid hbi
   clear hbi hxw
   cases hfb : fromB ls wants k with
   | none =>
    have HFR := Lib.hid (HFR0.out.mono (R' := fun e w' => e = .returned (.tuple #[.slice none 0 0, .bool false]) ∧ Ext wo w') (fun e w' h => ⟨h.2.elim (fun q => q.2) (fun ⟨p, _, q, _⟩ => by rw [hfb] at q; cases q), h.1⟩))
    have HBN := Lib.hid (boughtTo_none hfb)
    clear HFR0 hfb
    go_wp2_with (go_at_call 67; refine HFR.out.mono ?_; rintro e w2 ⟨rfl, hx2⟩)
    have hb2 := HBI.out.ext hx2
    go_roundw
    case rel => exact ⟨k + 1, qs, by omega, by go_num, ⟨_, _, _, rfl⟩, hb2.x, hb2.own, by rw [HBN.out]; exact hb2.rs, hb2.ms⟩
    case measure => simp [intOf]; omega
   | some p =>
    have HFR := Lib.hid (HFR0.out.mono (R' := fun e w' => ∃ pb n rbs m, e = .returned (.tuple #[.slice (some ⟨pb, 0, none⟩) n n, .bool true]) ∧ Ext wo w' ∧ rbs.length = n ∧ p.length = n ∧ PlanI 0 n m w' pb rbs p) (fun e w' h => h.2.elim (fun q => by have := q.1; rw [hfb] at this; cases this) (fun ⟨p', v, q, he, hv⟩ => by
     rw [hfb] at q
     cases q
     obtain ⟨pb, rbs, n, m, rfl, h1, h2, h3⟩ := hv
     exact ⟨pb, n, rbs, m, he, h.1, h1, h2, h3⟩)))
    have hpu := from_purchase HS.out hfb
    have hpb := (purchase_iff HS.out).2 hpu
    have HBS := Lib.hid (boughtTo_some hfb)
    have HPU := Lib.hid hpu
    clear HFR0 hfb hpu
    go_upto_region 8 with (go_at_call 67; refine HFR.out.mono ?_; rintro e w2 ⟨pb, n, rbs, m, rfl, hx2, hrn, rfl, hpi⟩)
    have hpa2 : PlanAt w2 (.slice (some ⟨pb, 0, none⟩) p.length p.length) p := ⟨pb, rbs, _, m, rfl, hrn, rfl, hpi⟩
    have hxw2 := HXW.out.trans hx2
    have HCO := Lib.hid ((costs_any _ _ (.slice (some ⟨pb, 0, none⟩) p.length p.length) ls wants p w2 HS.out (HL.out w2 hxw2).1 (HL.out w2 hxw2).2 hpa2.rows).mono (R' := fun e w' => e = .returned (.int .i64 (costsB ls p)) ∧ Ext w2 w') (fun e w' h => ⟨h.2.elim (fun q => q.2) (fun q => by have := q.1; rw [hpb] at this; cases this), h.1⟩))
    have HPA2 := Lib.hid hpa2
    have HB2 := Lib.hid (HBI.out.ext hx2)
    obtain ⟨C, hC⟩ : ∃ C, costsB ls p = C := ⟨_, rfl⟩
    rw [hC] at HCO HBS
    clear hpa2 hxw2 hx2 hrn hpi hpb hC HBI HFR
    go_upto_region 10 with (go_at_call 68; refine HCO.out.mono ?_; rintro e w3 ⟨rfl, hx3⟩)
    obtain ⟨W3, hW3⟩ : ∃ W3, W3 = w3.alloc (.cells #[.slice (some ⟨pb, 0, none⟩) p.length p.length, .int .i64 C, .int .i64 0] 132) := ⟨_, rfl⟩
    have hxa : Ext w3 W3 := by rw [hW3]; exact (Ext.refl w3).alloc _
    have hb3 : W3.heap[w3.heap.size]? = some (.cells #[.slice (some ⟨pb, 0, none⟩) p.length p.length, .int .i64 C, .int .i64 0] 132) := by rw [hW3]; exact World.alloc_heap_new _ _
    have hzb : Hid (w2.heap.size ≤ w3.heap.size) := hx3.size
    have HB3 := Lib.hid hb3
    have HPA3 := Lib.hid (HPA2.out.ext (hx3.trans hxa))
    have HX23 := Lib.hid (hx3.trans hxa)
    have hNR : NotRows W3 (fun q => q = w3.heap.size) := by
     rintro j rfl cur fr
     exact ⟨(fun e => by rw [HB3.out] at e; cases e), (fun e => by rw [HB3.out] at e; cases e)⟩
    have HNR := Lib.hid hNR
    rw [← hW3]
    clear hW3 hxa hb3 hx3 HPA2 HCO hNR
    obtain ⟨xb, hxb⟩ : ∃ xb, w3.heap.size = xb := ⟨_, rfl⟩
    rw [hxb] at HB3 HNR hzb ⊢
    clear hxb
    go_wp2
    go_loopw [43] (fun j wz => ∃ q : Nat, q ≤ p.length ∧ j = .int .i64 (q : Int) ∧ Hid (wz.heap[xb]? = some (.cells #[.slice (some ⟨pb, 0, none⟩) p.length p.length, .int .i64 C, .int .i64 (sellersTo p q)] 132)) ∧ Touch (fun i => i = xb) W3 wz) (fun j _ => p.length - (intOf j).toNat)
    case atStart => exact ⟨0, Nat.zero_le _, rfl, by have h := HB3.out; simpa [Hid, sellersTo, sellersOf] using h, Touch.refl _ _⟩
    case round =>
     obtain ⟨q, hq, rfl, hcell, hT⟩ := hrel
     have hpr := (HPA3.out.touch hT HNR.out).rows
     obtain ⟨⟨y0, y1, y2⟩, x0, x1, x2⟩ := cells3 hcell.out
     by_cases hlt2 : q < p.length
     ·obtain ⟨_, _, hve, _, _, p3⟩ := hpr.open
      obtain ⟨bb, bo, r, ra, rc, hbe, hrk, c0, hri, hr1, hr2⟩ := p3 q (by omega)
      cases hve
      cases hbe
      rw [Nat.zero_add] at c0
      have hrow := purchase_row HPU.out (List.mem_of_getElem? hrk.out)
      have hbds : ∀ x, x ∈ r → 0 ≤ x ∧ x ≤ 100 := by
       intro x hx
       obtain ⟨g, hg⟩ := List.getElem?_of_mem hx
       have hgl := (List.getElem?_eq_some_iff.1 hg).1
       have hql : q < ls.length := by have := HPU.out.len; omega
       have h1 := HPU.out.row q ls[q] r (by simp) hrk.out
       have h2 := h1.2 g (by rw [← h1.1]; exact hgl)
       rw [List.getD_eq_getElem?_getD, hg] at h2
       have h3 := (HS.out.one ls[q] (List.getElem_mem hql))
       have h4 : ls[q].stock.getD g 0 ≤ 100 := by
        rw [List.getD_eq_getElem?_getD]
        cases hst : ls[q].stock[g]? with
        | none => simp
        | some y => exact (h3.2.2.2.1 y (List.mem_of_getElem? hst)).2
       have h5 := h2.1
       have h6 := h2.2
       simp only [Option.getD_some] at h5 h6
       omega
      have hrl : r.length ≤ 5 := by have := hrow.1; have := HS.out.w5; omega
      have hsb : ∀ q, 0 ≤ (r.take q).sum ∧ (r.take q).sum ≤ 1000000000000000 := fun q => by
       have h1 := sums_bd hbds (by decide) q
       have h2 := sums_bd hbds (by decide) r.length
       rcases Nat.le_total q r.length with hq | hq
       ·omega
       ·rw [List.take_of_length_le hq] at h1 ⊢
        rw [List.take_of_length_le (Nat.le_refl _)] at h2
        omega
      have HSUM := Lib.hid (sum_any _ r wr hri hsb (fun x hx => by have := hbds x hx; omega))
      have hss := sellersTo_succ hrk.out
      have hsn := sellersTo_bd p q
      obtain ⟨sm, hsm⟩ : ∃ sm, r.sum = sm := ⟨_, rfl⟩
      obtain ⟨sq, hsq⟩ : ∃ sq, sellersTo p q = sq := ⟨_, rfl⟩
      rw [hsm] at hss HSUM
      rw [hsq] at hss hsn y2 hcell
      have q1 : (0 : Int) ≤ (q : Int) := by omega
      have q2 : (q : Int) < (p.length : Int) := by omega
      have hn100 : p.length ≤ 4 := by have := HPU.out.len; omega
      have hw1 : IntKind.i64.wrap (sq + 1) = sq + 1 := IntWalk.i64_in _ (by omega)
      have HT := Lib.hid hT
      have HCELL := Lib.hid hcell.out
      clear hpr p3 hrk hrow hbds hrl hsb hri hsm hsq hT hcell
      by_cases hs0 : 0 < sm
      ·have t2 : decide (0 < sm) = true := by simpa using hs0
       rw [if_pos hs0] at hss
       have HSS := Lib.hid hss
       have HST := Lib.hid (heap_setCell_same wr xb 2 _ _ (.int .i64 (sq + 1)) HCELL.out)
       clear hss hsn hs0
       go_wp2_with (go_at_call 69; refine HSUM.out.mono ?_; rintro e w4 ⟨rfl, rfl⟩)
       go_roundw
       case rel => exact ⟨q + 1, by omega, by go_num, by rw [HSS.out]; exact HST.out, HT.out.trans (Touch.setCell _ rfl)⟩
       case measure => simp [intOf]; omega
      ·have t2 : decide (0 < sm) = false := by simpa using hs0
       rw [if_neg hs0, Int.add_zero] at hss
       have HSS := Lib.hid hss
       clear hss hsn hs0
       go_wp2_with (go_at_call 69; refine HSUM.out.mono ?_; rintro e w4 ⟨rfl, rfl⟩)
       go_roundw
       case rel => exact ⟨q + 1, by omega, by go_num, by rw [HSS.out]; exact HCELL.out, HT.out⟩
       case measure => simp [intOf]; omega
     ·have hqe : sellersTo p q = sellersOf p := by unfold sellersTo; rw [List.take_of_length_le (by omega)]
      rw [hqe] at y2
      have hb4 := HB2.out.ext (Touch.ext HX23.out hT (fun i hi => by have := hzb.out; omega))
      have hpa4 := HPA3.out.touch hT HNR.out
      have hql : qs.length ≤ k := by
       have h := congrArg List.length HB2.out.rs
       rw [List.length_map] at h
       have := boughtTo_len ls wants k
       omega
      have HSZ := Lib.hid (show qs.length + 1 ≤ maxLen ∧ (qs.length + 1) * 40 ≤ 140737488355328 by unfold maxLen; omega)
      have hvn : vn = qs.length := by
       obtain ⟨_, _, hve, _⟩ := RowAt.open (RowAt.of_owns hb4.own)
       cases hve; rfl
      have HVN := Lib.hid hvn
      have HB4 := Lib.hid hb4
      have HPA4 := Lib.hid hpa4
      have hbz := hb4.x.size
      generalize sellersOf p = sp at HBS y2
      clear hpr hT hcell hb4 hpa4 hqe hql hvn
      go_wp2_with (at_builtin; refine wpList_push_at E_boughts rfl _ _ rfl w1.heap.size rfl HB4.out.own rfl (by simp) rfl (by simp [Value.oneCell']) ?_ HSZ.out.1 HSZ.out.2 hbz; intro g9 cap9 w9 hown9 hext9 hg9 hloc9)
      go_roundw
      case rel => exact ⟨k + 1, _, by omega, by go_num, ⟨_, _, _, rfl⟩, HB4.out.push (x := ⟨.slice (some ⟨pb, 0, none⟩) p.length p.length, (p, C, sp)⟩) HPA4.out HBS.out hown9 hg9⟩
      case measure => simp [intOf]; omega
  ·have hke : k = M := by omega
   have hrs := hbi.rs
   rw [hke, ← HM.out] at hrs
   have hrow : RowOf btrC wo (.slice va vn vc) qs := RowAt.of_owns hbi.own
   by_cases h0 : 0 < qs.length
   ·have HBB := Lib.hid (bestb_any _ qs wo hrow (fun r hr => (hbi.ms r hr).rows) h0)
    have HMS := Lib.hid hbi.ms
    have HRS := Lib.hid hrs
    clear hrow hrs hbi hxw hke h0
    go_upto_region 21 with (go_at_call 70; refine HBB.out.mono ?_; rintro e w2 ⟨x, hxm, hxb, rfl, hx2⟩; obtain ⟨pb, rbs, n, m, hxv, h1, h2, h3⟩ := HMS.out x hxm; have HXX := Lib.hid (And.intro hxm hxb); have HPX := Lib.hid (show PlanAt wo x.v x.p.1 from ⟨pb, rbs, n, m, hxv, h1, h2, h3⟩); have HXV := Lib.hid hxv; rw [hxv]; clear hxm hxb hxv h1 h2 h3)
    have hbuy : buyB ls wants = some x.p := by
     unfold buyB
     rw [← HRS.out]
     exact best_mapG (lt := ltB) BtR.p HXX.out.2
    have HBUY := Lib.hid hbuy
    have HPX2 := Lib.hid (HPX.out.ext hx2)
    have HX2 := Lib.hid (HXW.out.trans hx2)
    obtain ⟨W3, hW3⟩ : ∃ W3, W3 = w2.alloc (.cells #[.slice (some ⟨pb, 0, none⟩) n n, .int .i64 x.p.2.1, .int .i64 x.p.2.2] 132) := ⟨_, rfl⟩
    have hxa : Ext w2 W3 := by rw [hW3]; exact (Ext.refl w2).alloc _
    have q0 : W3.cell? ⟨w2.heap.size, 0, none⟩ = some (.slice (some ⟨pb, 0, none⟩) n n) := by rw [hW3]; go_simp
    have q1 : W3.cell? ⟨w2.heap.size, 1, none⟩ = some (.int .i64 x.p.2.1) := by rw [hW3]; go_simp
    have HXA := Lib.hid hxa
    rw [← hW3]
    clear hW3 hxa hx2 hbuy
    go_quiet (fail)
    go_wp2
    refine bodyPost_ret (v := .tuple #[.slice (some ⟨pb, 0, none⟩) n n, .int .i64 x.p.2.1, .int .i64 0]) (by simp [results, Tryz.results36, go_sem]) rfl ?_
    refine HR2.out _ _ _ HZ.out HBUY.out ((HX2.out.trans HXA.out).drewN nq) ?_
    have h5 := (HPX2.out.ext (HXA.out.drewN nq)).rows
    rw [HXV.out] at h5
    exact h5
   ·have hq0 : qs = [] := List.length_eq_zero_iff.1 (by omega)
    have hbuy : buyB ls wants = none := by
     unfold buyB
     rw [← hrs, hq0]; rfl
    have hvn : vn = 0 := by
     obtain ⟨_, _, hve, _⟩ := RowAt.open hrow
     cases hve
     rw [hq0]; rfl
    subst hvn
    have HBUY := Lib.hid hbuy
    have HBB := Lib.hid (bestb_nil va vc wo)
    clear hrow hrs hbi hxw hke h0 hq0 hbuy
    go_wp2_with (go_at_call 70; refine HBB.out.mono ?_; rintro e w2 ⟨rfl, hx2⟩)
    refine bodyPost_ret (v := .tuple #[.slice none 0 0, .int .i64 0, .int .i64 5]) (by simp [results, Tryz.results36, go_sem]) rfl ?_
    exact HR1.out _ HZ.out HBUY.out ((HXW.out.trans hx2).alloc _)
end Go.Proofs.YtokananogogjaaaGreatDoor
