
import Derived.Test.YtflfajphjmajpaaGreatDoorPA
namespace Go.Proofs.YtflfajphjmajpaaGreatDoor
structure Cnt where
 s:Int
 a:Int
 b:Int
 sales:Int
 coins:Int
 len:Int
 deriving DecidableEq
def c0:Cnt:=⟨0,0,0,0,0,0⟩
def yPA (m:Int) (c:Cnt) (r:Rec):Cnt :=
 if r.m=m then (if r.k=2 then ⟨r.s,r.a,r.b,0,0,0⟩ else if r.k=0 then { c with sales:=c.sales+1,coins:=c.coins+r.b,len:=c.len+1 } else { c with len:=c.len+1 }) else c
def wF (L:List Rec) (m:Int) (i:Nat):Cnt:=(L.take i).foldl (yPA m) c0
structure Lk where
 m:Int
 f:Int
 t:Int
 sales:Int
 coins:Int
 deriving DecidableEq
def zEA (c:Cnt) (r:Rec):Lk:=⟨r.m,c.s,r.s,r.a-c.a-c.sales,r.b-c.b-c.coins⟩
def zSK (c:Cnt) (r:Rec):Bool:=decide (0<=(zEA c r).sales) && decide ((zEA c r).sales<=r.s-c.s-1-c.len) && decide (0<=(zEA c r).coins) && decide ((zEA c r).coins<=10000*(zEA c r).sales)
def vH (L:List Rec):Nat->Option (List Lk)
 | 0=>some []
 | i+1=>match vH L i,L[i]? with
  | some o,some r=>if r.k=2 then (if zSK (wF L r.m i) r then some (if 0<(zEA (wF L r.m i) r).sales then o++[zEA (wF L r.m i) r] else o) else none) else some o
  | _,_=>none
def uR (L:List Rec):Option (List Lk):=vH L L.length
theorem zNY {L:List Rec} {m:Int} {i:Nat} {r:Rec} (h:L[i]?=some r):wF L m (i+1)=yPA m (wF L m i) r:=by
 unfold wF;rw [List.take_add_one,h];simp
end Go.Proofs.YtflfajphjmajpaaGreatDoor
