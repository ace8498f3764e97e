
import Derived.Test.YtflfajphjmajpaaGreatDoorLayB
import Derived.Shelf.SlSortCmp.NoneTotal
import Derived.KernelRfl
import Derived.Test.YtflfajphjmajpaaGreatDoorProg
namespace Go.Proofs.YtflfajphjmajpaaGreatDoor
open Go Go.Proofs Go.Shelf Go.RowKit Go.Lib Go.Sort
def yKJ:Ren where
 f:=fun n=>match n with
  | 6=>59
  | 14=>89
  | 15=>90
  | 20=>103
  | 21=>104
  | 22=>105
  | 23=>106
  | 24=>107
  | 25=>108
  | 26=>109
  | 27=>110
  | 28=>111
  | 29=>112
  | 46=>128
  | 47=>129
  | 48=>130
  | 49=>131
  | 50=>132
  | 57=>140
  | n=>n
 t:=fun n=>match n with
  | 22=>52
  | 24=>64
  | 25=>141
  | 39=>38
  | 45=>168
  | 46=>169
  | 50=>173
  | 53=>176
  | 55=>26
  | 66=>188
  | 70=>192
  | 76=>199
  | 77=>200
  | n=>n
 g:=fun n=>match n with
  | n=>n
theorem xOX:SlLaysF0.n6 Tryz.prog yKJ where
 mixed:=by kernel_rfl
 f6 := ⟨ "slices.SortFunc[[]layover/sheet.Record,layover/sheet.Record]", of_decide_eq_true (by kernel_rfl), Tryz.func59.trans (by kernel_rfl)⟩
 f14 := ⟨ "slices.pdqsortCmpFunc[layover/sheet.Record]", of_decide_eq_true (by kernel_rfl), Tryz.func89.trans (by kernel_rfl)⟩
 f15:=Tryz.func90.trans (by kernel_rfl)
 f20 := ⟨ "slices.insertionSortCmpFunc[layover/sheet.Record]", of_decide_eq_true (by kernel_rfl), Tryz.func103.trans (by kernel_rfl)⟩
 f21 := ⟨ "slices.heapSortCmpFunc[layover/sheet.Record]", of_decide_eq_true (by kernel_rfl), Tryz.func104.trans (by kernel_rfl)⟩
 f22 := ⟨ "slices.breakPatternsCmpFunc[layover/sheet.Record]", of_decide_eq_true (by kernel_rfl), Tryz.func105.trans (by kernel_rfl)⟩
 f23 := ⟨ "slices.choosePivotCmpFunc[layover/sheet.Record]", of_decide_eq_true (by kernel_rfl), Tryz.func106.trans (by kernel_rfl)⟩
 f24 := ⟨ "slices.reverseRangeCmpFunc[layover/sheet.Record]", of_decide_eq_true (by kernel_rfl), Tryz.func107.trans (by kernel_rfl)⟩
 f25 := ⟨ "slices.partialInsertionSortCmpFunc[layover/sheet.Record]", of_decide_eq_true (by kernel_rfl), Tryz.func108.trans (by kernel_rfl)⟩
 f26 := ⟨ "slices.partitionEqualCmpFunc[layover/sheet.Record]", of_decide_eq_true (by kernel_rfl), Tryz.func109.trans (by kernel_rfl)⟩
 f27 := ⟨ "slices.partitionCmpFunc[layover/sheet.Record]", of_decide_eq_true (by kernel_rfl), Tryz.func110.trans (by kernel_rfl)⟩
 f28:=Tryz.func111.trans (by kernel_rfl)
 f29:=Tryz.func112.trans (by kernel_rfl)
 f46 := ⟨ "slices.siftDownCmpFunc[layover/sheet.Record]", of_decide_eq_true (by kernel_rfl), Tryz.func128.trans (by kernel_rfl)⟩
 f47:=Tryz.func129.trans (by kernel_rfl)
 f48:=Tryz.func130.trans (by kernel_rfl)
 f49 := ⟨ "slices.medianAdjacentCmpFunc[layover/sheet.Record]", of_decide_eq_true (by kernel_rfl), Tryz.func131.trans (by kernel_rfl)⟩
 f50 := ⟨ "slices.medianCmpFunc[layover/sheet.Record]", of_decide_eq_true (by kernel_rfl), Tryz.func132.trans (by kernel_rfl)⟩
 f57 := ⟨ "slices.order2CmpFunc[layover/sheet.Record]", of_decide_eq_true (by kernel_rfl), Tryz.func140.trans (by kernel_rfl)⟩
 t0:=Tryz.underlying0
 a0:=Tryz.isAgg0
 z0:=Tryz.sizeOf0
 v0:=Tryz.zeroValue0
 t3:=Tryz.underlying3
 a3:=Tryz.isAgg3
 z3:=Tryz.sizeOf3
 v3:=Tryz.zeroValue3
 t4:=Tryz.underlying4
 a4:=Tryz.isAgg4
 z4:=Tryz.sizeOf4
 v4:=Tryz.zeroValue4
 t5:=Tryz.underlying5
 a5:=Tryz.isAgg5
 z5:=Tryz.sizeOf5
 v5:=Tryz.zeroValue5
 t9:=Tryz.underlying9
 a9:=Tryz.isAgg9
 z9:=Tryz.sizeOf9
 v9:=Tryz.zeroValue9
 t22:=Tryz.underlying52
 a22:=Tryz.isAgg52
 z22:=Tryz.sizeOf52
 v22:=Tryz.zeroValue52
 t25:=Tryz.underlying141
 a25:=Tryz.isAgg141
 z25:=Tryz.sizeOf141
 v25:=Tryz.zeroValue141
 t39:=Tryz.underlying38
 a39:=Tryz.isAgg38
 z39:=Tryz.sizeOf38
 v39:=Tryz.zeroValue38
 t45:=Tryz.underlying168
 a45:=Tryz.isAgg168
 z45:=Tryz.sizeOf168
 v45:=Tryz.zeroValue168
 t46:=Tryz.underlying169
 a46:=Tryz.isAgg169
 z46:=Tryz.sizeOf169
 v46:=Tryz.zeroValue169
 t50:=Tryz.underlying173
 a50:=Tryz.isAgg173
 z50:=Tryz.sizeOf173
 v50:=Tryz.zeroValue173
 t53:=Tryz.underlying176
 a53:=Tryz.isAgg176
 z53:=Tryz.sizeOf176
 v53:=Tryz.zeroValue176
 t55:=Tryz.underlying26
 a55:=Tryz.isAgg26
 z55:=Tryz.sizeOf26
 v55:=Tryz.zeroValue26
 t66:=Tryz.underlying188
 a66:=Tryz.isAgg188
 z66:=Tryz.sizeOf188
 v66:=Tryz.zeroValue188
 t70:=Tryz.underlying192
 a70:=Tryz.isAgg192
 z70:=Tryz.sizeOf192
 v70:=Tryz.zeroValue192
 t76:=Tryz.underlying199
 a76:=Tryz.isAgg199
 z76:=Tryz.sizeOf199
 v76:=Tryz.zeroValue199
 t77:=Tryz.underlying200
 a77:=Tryz.isAgg200
 z77:=Tryz.sizeOf200
 v77:=Tryz.zeroValue200
def yHK:Ren where
 f:=fun n=>match n with
  | 6=>72
  | 14=>96
  | 15=>90
  | 20=>113
  | 21=>114
  | 22=>115
  | 23=>116
  | 24=>117
  | 25=>118
  | 26=>119
  | 27=>120
  | 28=>111
  | 29=>112
  | 46=>133
  | 47=>129
  | 48=>130
  | 49=>134
  | 50=>135
  | 57=>141
  | n=>n
 t:=fun n=>match n with
  | 22=>66
  | 24=>75
  | 25=>148
  | 39=>38
  | 45=>168
  | 46=>169
  | 50=>173
  | 53=>176
  | 55=>26
  | 66=>188
  | 70=>192
  | 76=>199
  | 77=>200
  | n=>n
 g:=fun n=>match n with
  | n=>n
theorem xHG:SlLaysF0.n6 Tryz.prog yHK where
 mixed:=by kernel_rfl
 f6 := ⟨ "slices.SortFunc[[]layover/fare.Ride,layover/fare.Ride]", of_decide_eq_true (by kernel_rfl), Tryz.func72.trans (by kernel_rfl)⟩
 f14 := ⟨ "slices.pdqsortCmpFunc[layover/fare.Ride]", of_decide_eq_true (by kernel_rfl), Tryz.func96.trans (by kernel_rfl)⟩
 f15:=Tryz.func90.trans (by kernel_rfl)
 f20 := ⟨ "slices.insertionSortCmpFunc[layover/fare.Ride]", of_decide_eq_true (by kernel_rfl), Tryz.func113.trans (by kernel_rfl)⟩
 f21 := ⟨ "slices.heapSortCmpFunc[layover/fare.Ride]", of_decide_eq_true (by kernel_rfl), Tryz.func114.trans (by kernel_rfl)⟩
 f22 := ⟨ "slices.breakPatternsCmpFunc[layover/fare.Ride]", of_decide_eq_true (by kernel_rfl), Tryz.func115.trans (by kernel_rfl)⟩
 f23 := ⟨ "slices.choosePivotCmpFunc[layover/fare.Ride]", of_decide_eq_true (by kernel_rfl), Tryz.func116.trans (by kernel_rfl)⟩
 f24 := ⟨ "slices.reverseRangeCmpFunc[layover/fare.Ride]", of_decide_eq_true (by kernel_rfl), Tryz.func117.trans (by kernel_rfl)⟩
 f25 := ⟨ "slices.partialInsertionSortCmpFunc[layover/fare.Ride]", of_decide_eq_true (by kernel_rfl), Tryz.func118.trans (by kernel_rfl)⟩
 f26 := ⟨ "slices.partitionEqualCmpFunc[layover/fare.Ride]", of_decide_eq_true (by kernel_rfl), Tryz.func119.trans (by kernel_rfl)⟩
 f27 := ⟨ "slices.partitionCmpFunc[layover/fare.Ride]", of_decide_eq_true (by kernel_rfl), Tryz.func120.trans (by kernel_rfl)⟩
 f28:=Tryz.func111.trans (by kernel_rfl)
 f29:=Tryz.func112.trans (by kernel_rfl)
 f46 := ⟨ "slices.siftDownCmpFunc[layover/fare.Ride]", of_decide_eq_true (by kernel_rfl), Tryz.func133.trans (by kernel_rfl)⟩
 f47:=Tryz.func129.trans (by kernel_rfl)
 f48:=Tryz.func130.trans (by kernel_rfl)
 f49 := ⟨ "slices.medianAdjacentCmpFunc[layover/fare.Ride]", of_decide_eq_true (by kernel_rfl), Tryz.func134.trans (by kernel_rfl)⟩
 f50 := ⟨ "slices.medianCmpFunc[layover/fare.Ride]", of_decide_eq_true (by kernel_rfl), Tryz.func135.trans (by kernel_rfl)⟩
 f57 := ⟨ "slices.order2CmpFunc[layover/fare.Ride]", of_decide_eq_true (by kernel_rfl), Tryz.func141.trans (by kernel_rfl)⟩
 t0:=Tryz.underlying0
 a0:=Tryz.isAgg0
 z0:=Tryz.sizeOf0
 v0:=Tryz.zeroValue0
 t3:=Tryz.underlying3
 a3:=Tryz.isAgg3
 z3:=Tryz.sizeOf3
 v3:=Tryz.zeroValue3
 t4:=Tryz.underlying4
 a4:=Tryz.isAgg4
 z4:=Tryz.sizeOf4
 v4:=Tryz.zeroValue4
 t5:=Tryz.underlying5
 a5:=Tryz.isAgg5
 z5:=Tryz.sizeOf5
 v5:=Tryz.zeroValue5
 t9:=Tryz.underlying9
 a9:=Tryz.isAgg9
 z9:=Tryz.sizeOf9
 v9:=Tryz.zeroValue9
 t22:=Tryz.underlying66
 a22:=Tryz.isAgg66
 z22:=Tryz.sizeOf66
 v22:=Tryz.zeroValue66
 t25:=Tryz.underlying148
 a25:=Tryz.isAgg148
 z25:=Tryz.sizeOf148
 v25:=Tryz.zeroValue148
 t39:=Tryz.underlying38
 a39:=Tryz.isAgg38
 z39:=Tryz.sizeOf38
 v39:=Tryz.zeroValue38
 t45:=Tryz.underlying168
 a45:=Tryz.isAgg168
 z45:=Tryz.sizeOf168
 v45:=Tryz.zeroValue168
 t46:=Tryz.underlying169
 a46:=Tryz.isAgg169
 z46:=Tryz.sizeOf169
 v46:=Tryz.zeroValue169
 t50:=Tryz.underlying173
 a50:=Tryz.isAgg173
 z50:=Tryz.sizeOf173
 v50:=Tryz.zeroValue173
 t53:=Tryz.underlying176
 a53:=Tryz.isAgg176
 z53:=Tryz.sizeOf176
 v53:=Tryz.zeroValue176
 t55:=Tryz.underlying26
 a55:=Tryz.isAgg26
 z55:=Tryz.sizeOf26
 v55:=Tryz.zeroValue26
 t66:=Tryz.underlying188
 a66:=Tryz.isAgg188
 z66:=Tryz.sizeOf188
 v66:=Tryz.zeroValue188
 t70:=Tryz.underlying192
 a70:=Tryz.isAgg192
 z70:=Tryz.sizeOf192
 v70:=Tryz.zeroValue192
 t76:=Tryz.underlying199
 a76:=Tryz.isAgg199
 z76:=Tryz.sizeOf199
 v76:=Tryz.zeroValue199
 t77:=Tryz.underlying200
 a77:=Tryz.isAgg200
 z77:=Tryz.sizeOf200
 v77:=Tryz.zeroValue200
theorem yVB {α:Type} [Inhabited α] {enc:α->List Value} {k:Nat} (hk:∀ x,(enc x).length=k):∀ l:List α,flatK enc k l.toArray=⟨(l.map enc).flatten⟩:=by
 intro l;have hsz:((l.map enc).flatten).length=l.length*k:=by
  induction l with
  | nil=>simp
  | cons x l ih=>simp [hk x,ih,Nat.succ_mul,Nat.add_comm]
 refine ext_get! (by simp [hsz]) fun t ht=>?_
 rw [size_flatK] at ht;rw [get_flatK _ _ _ _ ht];have hk0:0<k:=by
  rcases Nat.eq_zero_or_pos k with h | h
  ·subst h;simp at ht
  ·exact h
 have ht':t<l.length*k:=by simpa using ht
 have key:∀ (l:List α) (t:Nat),t<l.length*k->((l.map enc).flatten)[t]?=(enc (l.toArray[t / k]!))[t % k]?:=by
  intro l;induction l with
  | nil=>intro t h;simp at h
  | cons x l ih =>
   intro t h;rw [List.map_cons,List.flatten_cons];by_cases h1:t<k
   ·rw [List.getElem?_append_left (by rw [hk x];exact h1),Nat.div_eq_of_lt h1,Nat.mod_eq_of_lt h1];rfl
   ·rw [List.getElem?_append_right (by rw [hk x];omega),hk x];have e:(x::l).length*k=l.length*k+k:=Nat.succ_mul _ _;rw [ih (t-k) (by omega)];have e1:t / k=(t-k) / k+1:=by
     rw [Nat.div_eq_sub_div hk0 (by omega)]
    have e2:t % k=(t-k) % k:=Nat.mod_eq_sub_mod (by omega);rw [e1,e2];have hb:(t-k) / k<l.length:=by rw [Nat.div_lt_iff_lt_mul hk0];omega
    simp [hb]
 have h1:=key l t ht';have hlt:t % k<(enc (l.toArray[t / k]!)).length:=by rw [hk];exact Nat.mod_lt _ hk0
 rw [List.getElem?_eq_getElem hlt,List.getElem?_eq_getElem (by rw [hsz];exact ht')] at h1;simp only [Option.some.injEq] at h1;have e1:(enc (l.toArray[t / k]!))[t % k]! = (enc (l.toArray[t / k]!))[t % k]'hlt:=getElem!_pos (enc (l.toArray[t / k]!)) (t % k) hlt;have e2:(((l.map enc).flatten).toArray)[t]! = ((l.map enc).flatten)[t]'(by rw [hsz];exact ht'):=by
  rw [getElem!_pos _ _ (by simp [hsz,ht'])];rfl
 show _=(((l.map enc).flatten).toArray)[t]!;rw [e1,e2,h1]
theorem yZP {α:Type} [Inhabited α] {enc:α->List Value} {k:Nat} (hk:∀ x,(enc x).length=k) (d:Array α):flatK enc k d=Go.Lay.flatO enc d:=yVB hk d.toList
theorem zWC {P:Program} {ρ:Ren} (L:SlLaysF0.n6 P ρ) {k:Nat} (aE:∀ w,(isAgg (ρ.t 24)).run P w=.ok true w) (zE:∀ w,(Go.sizeOf (ρ.t 24)).run P w=.ok k w):Go.Lay.SortLaw P (ρ.f 6) k:=by
 refine ⟨fun p cap fv w=>AnyF.slices_SortFunc_none L p cap fv w,fun α _ enc hk h1 cf hO g blk off cap d w eg hcmp hH hblk hsz hT=>?_⟩
 have hW:∀ (m:Nat) (dk:Array α) (os:Array Obj),sortWorldK enc k w blk off m dk os=Go.Lay.sortW enc w blk off m dk os:=fun m dk os=>by
  unfold sortWorldK Go.Lay.sortW putRowK;rw [yZP hk]
 have h:=AnyQ.slices_SortFunc_total L k aE zE enc hk h1 cf hO g #[] blk off cap d w eg (fun m os dk hd x y=>by rw [hW];exact hcmp m os dk hd x y) (by unfold HoldsK;rw [yZP hk];exact hH) hblk hsz hT;refine Calls.mono h fun e w' ⟨he,n,os,hw⟩=>⟨he,n,os, ?_⟩
 rw [hw,hW];rfl
theorem xTY:Go.Lay.OrcOk Tryz.prog:=by
 intro e he;simp only [Go.Lay.orcT,List.mem_cons,List.not_mem_nil,or_false] at he;rcases he with rfl | rfl
 ·exact ⟨zWC xOX Tryz.isAgg64 Tryz.sizeOf64,_,Tryz.func59,by kernel_rfl,by decide +kernel⟩
 ·exact ⟨zWC xHG Tryz.isAgg75 Tryz.sizeOf75,_,Tryz.func72,by kernel_rfl,by decide +kernel⟩
theorem zVH:Go.Lay.ProgOk Tryz.prog:=Go.Lay.progOk_of (by kernel_rfl) (by kernel_rfl) (by kernel_rfl) xTY
end Go.Proofs.YtflfajphjmajpaaGreatDoor
