/-
 An abstract state of Go functions,and that each operation's abstract step is sound. Over every program.
-/
import Derived.Orders
import Derived.ScopeJumps
import Derived.Laws.AppendOwn
import Derived.Below
import Derived.Laws.Cells
import Derived.Laws.Rows
import Derived.Laws.Slices
import Derived.Tactics
import Derived.Laws.CopyRow
import Derived.Laws.Append
import Derived.IntWalk
import Derived.WalkSpells
import Derived.Laws.BytesArg
set_option linter.unusedVariables false
set_option linter.unusedSimpArgs false
section
noncomputable section
namespace Go.Av
inductive AVal where
 |any
 |bool (b:Bool)
 |int (k:IntKind) (n:Int)
 |str (s:List UInt8)
 |nilp
 |ptr (n k j:Nat)
 |nils
 |slice (n off len sz:Nat) (cap:Option Nat)
 |agg (cs:List AVal)
 |tup (vs:List AVal)
 |func (f:FuncId) (caps:List AVal)
 |nilf
 |nili
 |iface (t:TypeId) (v:AVal)
 |obj (n:Nat)
 |sym (n:Nat)
 |vs (sz:Nat) (rows:List (List AVal))
 |vp (row:List AVal) (j:Nat)
 |zs (sz:Nat)
 |vt (sz n:Nat) (f:Nat→List AVal)
 |tagp (n:Nat) (t:TypeId)
 |tnils
 |tslice (n len sz:Nat) (t:TypeId)
 deriving Inhabited
def XW(n:Nat)(f:Nat→List AVal):List (List AVal):=(List.range n).map f
class Syms where
 val:Nat→Value
 one:∀n,(val n).oneCell'=true∧(val n).cells= #[val n]
 int:∀n,∃x,val n= .int .i64 x
structure Loc where
 g:Nat
 base:Nat
 size:Nat
 phys:Nat
 ty:Option TypeId
structure Inj where
 loc:Nat→Option Loc
 fz:Nat→Option (Array Value)
instance:CoeFun Inj fun _=>Nat→Option Loc:=⟨Inj.loc⟩
def Inj.bare(ι:Inj):Inj:=⟨fun _=>none,ι.fz⟩
def BND:Nat:=4294967296
inductive RelV[Syms]:Inj→AVal→Value→Prop
 |any {ι:Inj} (v:Value):RelV ι .any v
 |bool {ι:Inj} (b:Bool):RelV ι (.bool b) (.bool b)
 |int {ι:Inj} (k:IntKind) (n:Int):RelV ι (.int k n) (.int k n)
 |str {ι:Inj} (s:List UInt8):RelV ι (.str s) (.string ⟨⟨s⟩⟩)
 |nilp {ι:Inj}:RelV ι .nilp (.pointer none)
 |ptr {ι:Inj} (n k j:Nat) (L:Loc) (h:ι n=some L):RelV ι (.ptr n k j) (.pointer (some ⟨L.g,L.base+k*L.size+j,none⟩))
 |nils {ι:Inj}:RelV ι .nils (.slice none 0 0)
 |slice {ι:Inj} (n off len sz:Nat) (cap:Option Nat) (L:Loc) (a:Addr) (c:Nat) (h:ι n=some L) (hs:L.size=sz) (ha:c=0∨a=⟨L.g,L.base+off*L.size,none⟩) (hl:len≤c)
   (hp:L.base+(off+c)*L.size≤L.phys) (hm:c≤maxLen) (hc:∀k,cap=some k→c=k):RelV ι (.slice n off len sz cap) (.slice (some a) len c)
 |agg {ι:Inj} (cs:List AVal) (vs:List Value) (hl:cs.length=vs.length) (h:∀(i:Nat) (c:AVal) (v:Value),cs[i]?=some c→vs[i]?=some v→RelV ι c v):RelV ι (.agg cs) (.agg ⟨vs⟩)
 |tup {ι:Inj} (cs:List AVal) (vs:List Value) (hl:cs.length=vs.length) (h:∀(i:Nat) (c:AVal) (v:Value),cs[i]?=some c→vs[i]?=some v→RelV ι c v):RelV ι (.tup cs) (.tuple ⟨vs⟩)
 |func {ι:Inj} (f:FuncId) (cs:List AVal) (vs:List Value) (hf:Nat.ble BND f=false) (hl:cs.length=vs.length) (h:∀(i:Nat) (c:AVal) (v:Value),cs[i]?=some c→vs[i]?=some v→RelV ι c v):
   RelV ι (.func f cs) (.func (.func f) #[] ⟨vs⟩)
 |bfunc {ι:Inj} (f:FuncId) (cs:List AVal) (vs:List Value) (hl:cs.length=vs.length) (h:∀(i:Nat) (c:AVal) (v:Value),cs[i]?=some c→vs[i]?=some v→RelV ι c v):
   RelV ι (.func (f+BND) cs) (.func (.func f) ⟨vs⟩ #[])
 |nilf {ι:Inj}:RelV ι .nilf .nilFunc
 |nili {ι:Inj}:RelV ι .nili .nilIface
 |iface {ι:Inj} (t:TypeId) (x:AVal) (v:Value) (h:RelV ι x v):RelV ι (.iface t x) (.iface t v)
 |obj {ι:Inj} (n:Nat) (L:Loc) (h:ι n=some L):RelV ι (.obj n) (.pointer (some ⟨L.g,0,none⟩))
 |sym {ι:Inj} (n:Nat):RelV ι (.sym n) (Syms.val n)
 |vs {ι:Inj} (sz:Nat) (rows:List (List AVal)) (g o c:Nat) (cs:Array Value) (hf:ι.fz g=some cs) (hl:rows.length≤c) (hm:c≤maxLen) (hp:o+rows.length*sz≤cs.size)
   (hr:∀(k:Nat) (row:List AVal),rows[k]?=some row→row.length=sz) (h1:∀(k j:Nat) (v:Value),k<rows.length→j<sz→cs[o+k*sz+j]?=some v→v.oneCell'=true)
   (h:∀(k j:Nat) (row:List AVal) (x:AVal) (v:Value),rows[k]?=some row→row[j]?=some x→cs[o+k*sz+j]?=some v→RelV ι.bare x v):RelV ι (.vs sz rows) (.slice (some ⟨g,o,none⟩) rows.length c)
 |vp {ι:Inj} (row:List AVal) (j g b:Nat) (cs:Array Value) (hf:ι.fz g=some cs) (hp:b+row.length≤cs.size) (h1:∀(i:Nat) (v:Value),i<row.length→cs[b+i]?=some v→v.oneCell'=true)
   (h:∀(i:Nat) (x:AVal) (v:Value),row[i]?=some x→cs[b+i]?=some v→RelV ι.bare x v):RelV ι (.vp row j) (.pointer (some ⟨g,b+j,none⟩))
 |zs {ι:Inj} (sz:Nat) (a:Option Addr):RelV ι (.zs sz) (.slice a 0 0)
 |vz {ι:Inj} (sz:Nat) (a:Option Addr) (c:Nat) (hm:c≤maxLen) (hc:a=none→c=0):RelV ι (.vs sz []) (.slice a 0 c)
 |vt {ι:Inj} (sz n:Nat) (f:Nat→List AVal) (v:Value) (h:RelV ι (.vs sz (XW n f)) v):RelV ι (.vt sz n f) v
 |tagp {ι:Inj} (n:Nat) (t:TypeId) (L:Loc) (h:ι n=some L) (ht:L.ty=some t∧L.base=0∧L.phys=L.size):RelV ι (.tagp n t) (.pointer none)
 |tnils {ι:Inj}:RelV ι .tnils (.slice none 0 0)
 |tslice {ι:Inj} (n len sz:Nat) (t:TypeId) (L:Loc) (c:Nat) (h:ι n=some L) (hs:L.size=sz) (ht:L.ty=some t∧L.base=0) (hl:len≤c) (hp:c*L.size≤L.phys) (hm:c≤maxLen):RelV ι (.tslice n len sz t) (.slice (some ⟨L.g,0,none⟩) len c)
def Qs[Syms](ι:Inj)(cs:List AVal)(vs:List Value):Prop:=cs.length=vs.length∧ ∀(i:Nat) (c:AVal) (v:Value),cs[i]?=some c→vs[i]?=some v→RelV ι c v
theorem Qs.nil[Syms](ι:Inj):Qs ι [] []:=⟨rfl,fun i c v h=>by simp at h⟩
theorem Qs.cons[Syms]{ι:Inj}{c:AVal}{v:Value}{cs:List AVal}{vs:List Value}(h:RelV ι c v)(hs:Qs ι cs vs):Qs ι (c::cs) (v::vs):=by
 refine⟨by simp[hs.1],fun i c' v' h1 h2=>?_⟩
 cases i with
 |zero=>simp at h1 h2;subst h1;subst h2;exact h
 |succ i=>simp at h1 h2;exact hs.2 i c' v' h1 h2
theorem Qs.uncons[Syms]{ι:Inj}{c:AVal}{cs:List AVal}{vs:List Value}(h:Qs ι (c::cs) vs):∃v vs',vs=v::vs'∧RelV ι c v∧Qs ι cs vs':=by
 cases vs with
 |nil=>have:=h.1;simp at this
 |cons v vs'=>
  refine⟨v,vs',rfl,h.2 0 c v rfl rfl,by have:=h.1;simpa using this,fun i c' v' h1 h2=>h.2 (i+1) c' v' (by simpa using h1) (by simpa using h2)⟩
theorem Qs.unnil[Syms]{ι:Inj}{vs:List Value}(h:Qs ι [] vs):vs=[]:=by
 have:=h.1
 cases vs with
 |nil=>rfl
 |cons v vs'=>simp at this
theorem Qs.get[Syms]{ι:Inj}{cs:List AVal}{vs:List Value}(h:Qs ι cs vs){i:Nat}{c:AVal}(hi:cs[i]?=some c):∃v,vs[i]?=some v∧RelV ι c v:=by
 have hlt:i<cs.length:=(List.getElem?_eq_some_iff.1 hi).1
 have hv:vs[i]?=some (vs[i]'(by rw[←h.1];exact hlt)):=List.getElem?_eq_getElem _
 exact⟨_,hv,h.2 i c _ hi hv⟩
theorem Qs.append[Syms]{ι:Inj}{cs ds:List AVal}{vs us:List Value}(h:Qs ι cs vs)(k:Qs ι ds us):Qs ι (cs++ds) (vs++us):=by
 refine⟨by simp[h.1,k.1],fun i c v h1 h2=>?_⟩
 by_cases hi:i<cs.length
 ·rw[List.getElem?_append_left hi]at h1
  rw[List.getElem?_append_left (by rw[←h.1];exact hi)]at h2
  exact h.2 i c v h1 h2
 ·rw[List.getElem?_append_right (by omega)]at h1
  rw[List.getElem?_append_right (by rw[←h.1];omega)]at h2
  rw[←h.1]at h2
  exact k.2 _ c v h1 h2
theorem Qs.take[Syms]{ι:Inj}{cs:List AVal}{vs:List Value}(h:Qs ι cs vs)(n:Nat):Qs ι (cs.take n) (vs.take n):=by
 refine⟨by simp[h.1],fun i c v h1 h2=>?_⟩
 by_cases hi:i<n
 ·rw[List.getElem?_take_of_lt hi]at h1 h2
  exact h.2 i c v h1 h2
 ·rw[List.getElem?_eq_none (by simp;omega)]at h1
  cases h1
theorem Qs.drop[Syms]{ι:Inj}{cs:List AVal}{vs:List Value}(h:Qs ι cs vs)(n:Nat):Qs ι (cs.drop n) (vs.drop n):=by
 refine⟨by simp[h.1],fun i c v h1 h2=>?_⟩
 rw[List.getElem?_drop]at h1 h2
 exact h.2 _ c v h1 h2
theorem RelV.of_agg[Syms]{ι:Inj}{cs:List AVal}{v:Value}(h:RelV ι (.agg cs) v):∃vs,v= .agg ⟨vs⟩∧Qs ι cs vs:=by
 cases h with
 |agg _ vs hl h=>exact⟨vs,rfl,hl,h⟩
theorem RelV.mk_agg[Syms]{ι:Inj}{cs:List AVal}{vs:List Value}(h:Qs ι cs vs):RelV ι (.agg cs) (.agg ⟨vs⟩):=.agg cs vs h.1 h.2
theorem RelV.of_tup[Syms]{ι:Inj}{cs:List AVal}{v:Value}(h:RelV ι (.tup cs) v):∃vs,v= .tuple ⟨vs⟩∧Qs ι cs vs:=by
 cases h with
 |tup _ vs hl h=>exact⟨vs,rfl,hl,h⟩
theorem RelV.mk_tup[Syms]{ι:Inj}{cs:List AVal}{vs:List Value}(h:Qs ι cs vs):RelV ι (.tup cs) (.tuple ⟨vs⟩):=.tup cs vs h.1 h.2
def Inj.le(ι κ:Inj):Prop:=(∀n L,ι n=some L→κ n=some L)∧ ∀g cs,ι.fz g=some cs→κ.fz g=some cs
theorem Inj.bare_le(ι:Inj):ι.bare.le ι:=⟨fun _ _ h=>(nomatch h),fun _ _ h=>h⟩
theorem Inj.le_refl(ι:Inj):ι.le ι:=⟨fun _ _ h=>h,fun _ _ h=>h⟩
theorem Inj.le_trans{ι κ μ:Inj}(h:ι.le κ)(k:κ.le μ):ι.le μ:=⟨fun n L e=>k.1 n L (h.1 n L e),fun n L e=>k.2 n L (h.2 n L e)⟩
theorem RelV.mono[Syms]{ι κ:Inj}(hle:ι.le κ){x:AVal}{v:Value}(h:RelV ι x v):RelV κ x v:=by
 induction h generalizing κ with
 |any v=>exact .any v
 |bool b=>exact .bool b
 |int k n=>exact .int k n
 |str s=>exact .str s
 |nilp=>exact .nilp
 |ptr n k j L h=>exact .ptr n k j L (hle.1 _ _ h)
 |nils=>exact .nils
 |slice n off len sz cap L a c h hs ha hl hp hm hc=>exact .slice n off len sz cap L a c (hle.1 _ _ h) hs ha hl hp hm hc
 |agg cs vs hl h ih=>exact .agg cs vs hl fun i c v h1 h2=>ih i c v h1 h2 hle
 |tup cs vs hl h ih=>exact .tup cs vs hl fun i c v h1 h2=>ih i c v h1 h2 hle
 |func f cs vs hf hl h ih=>exact .func f cs vs hf hl fun i c v h1 h2=>ih i c v h1 h2 hle
 |bfunc f cs vs hl h ih=>exact .bfunc f cs vs hl fun i c v h1 h2=>ih i c v h1 h2 hle
 |nilf=>exact .nilf
 |nili=>exact .nili
 |iface t x v h ih=>exact .iface t x v (ih hle)
 |obj n L h=>exact .obj n L (hle.1 _ _ h)
 |sym n=>exact .sym n
 |vs sz rows g o c cs hf hl hm hp hr h1 h ih=>exact .vs sz rows g o c cs (hle.2 _ _ hf) hl hm hp hr h1 fun k j row x v a b c=>ih k j row x v a b c ⟨fun _ _ h=>(nomatch h),hle.2⟩
 |vp row j g b cs hf hp h1 h ih=>exact .vp row j g b cs (hle.2 _ _ hf) hp h1 fun i x v a b=>ih i x v a b ⟨fun _ _ h=>(nomatch h),hle.2⟩
 |zs sz a=>exact .zs sz a
 |vz sz a c hm hc=>exact .vz sz a c hm hc
 |vt sz n f v h ih=>exact .vt sz n f v (ih hle)
 |tagp n t L h ht=>exact .tagp n t L (hle.1 _ _ h) ht
 |tnils=>exact .tnils
 |tslice n len sz t L c h hs ht hl hp hm=>exact .tslice n len sz t L c (hle.1 _ _ h) hs ht hl hp hm
theorem Qs.mono[Syms]{ι κ:Inj}(hle:ι.le κ){cs:List AVal}{vs:List Value}(h:Qs ι cs vs):Qs κ cs vs:=⟨h.1,fun i c v h1 h2=>(h.2 i c v h1 h2).mono hle⟩
def AVal.cells:AVal→List AVal
 | .agg cs=>cs
 |v=>[v]
def AVal.leaf:AVal→Bool
 | .any| .agg _| .tup _=>false
 |_=>true
theorem RelV.leaf_one[Syms]{ι:Inj}{x:AVal}{v:Value}(h:RelV ι x v)(hx:x.leaf=true):v.oneCell'=true∧v.cells= #[v]:=by
 cases h<;>first|(simp[AVal.leaf]at hx;done)|exact⟨rfl,rfl⟩|exact Syms.one _|(rename_i h;generalize XW _ _=rows at h;cases h<;>exact⟨rfl,rfl⟩)
theorem RelV.cells[Syms]{ι:Inj}{x:AVal}{v:Value}(h:RelV ι x v)(hx:∀c∈x.cells,c.leaf=true):Qs ι x.cells v.cells.toList∧ ∀u∈v.cells.toList,u.oneCell'=true:=by
 cases x with
 |agg cs=>
  obtain⟨vs,rfl,hl⟩:=h.of_agg
  refine⟨hl,fun u hu=>?_⟩
  obtain⟨i,hi⟩:=List.mem_iff_getElem?.1 hu
  simp only[Value.cells]at hi
  have hlt:i<cs.length:=by rw[hl.1];exact(List.getElem?_eq_some_iff.1 hi).1
  have hc:cs[i]?=some cs[i]:=List.getElem?_eq_getElem hlt
  exact((hl.2 i _ u hc hi).leaf_one (hx _ (List.mem_of_getElem? hc))).1
 |any=>simp[AVal.cells,AVal.leaf]at hx
 |tup vs=>simp[AVal.cells,AVal.leaf]at hx
 |_=>
  have:=h.leaf_one rfl
  rw[this.2]
  exact⟨.cons h (.nil ι),by simpa using this.1⟩
inductive Blk where
 |cells (rows:List (List AVal)) (ro:Bool)
 |iter (s:List UInt8) (pos:Nat)
 deriving Inhabited
def Blk.ro:Blk→Bool
 | .cells _ ro=>ro
 | .iter _ _=>false
abbrev Heap:=List (Nat×Option Blk)
-- by the recursor:the kernel runs it,again and again
def Heap.get(h:Heap)(n:Nat):Option Blk:=@List.rec (Nat×Option Blk) (fun _=>Option Blk) none (fun p _ ih=>@Bool.rec (fun _=>Option Blk) ih p.2 (Nat.beq n p.1)) h
abbrev STP:Nat:=4294967295
def Heap.set(h:Heap)(n:Nat)(b:Option Blk):Heap:=@List.rec (Nat×Option Blk) (fun _=>Heap) [(n,b)] (fun p t ih=>@Bool.rec (fun _=>Heap) (@Bool.rec (fun _=>Heap) (p::ih) ((n,b)::p::t) (Nat.beq p.1 4294967295)) ((n,b)::t) (Nat.beq n p.1)) h
theorem Heap.get_nil(n:Nat):Heap.get [] n=none:=rfl
theorem Heap.get_cons(m:Nat)(b:Option Blk)(h:Heap)(n:Nat):Heap.get ((m,b)::h) n=bif Nat.beq n m then b else Heap.get h n:=by
 show @Bool.rec (fun _=>Option Blk) (Heap.get h n) b (Nat.beq n m)=_
 cases Nat.beq n m<;>rfl
theorem Heap.set_nil(n:Nat)(b:Option Blk):Heap.set [] n b=[(n,b)]:=rfl
theorem Heap.set_cons(m:Nat)(c:Option Blk)(h:Heap)(n:Nat)(b:Option Blk):Heap.set ((m,c)::h) n b=bif Nat.beq n m then(n,b)::h else bif Nat.beq m STP then(n,b)::(m,c)::h else(m,c)::Heap.set h n b:=by
 show @Bool.rec (fun _=>Heap) (@Bool.rec (fun _=>Heap) ((m,c)::Heap.set h n b) ((n,b)::(m,c)::h) (Nat.beq m STP)) ((n,b)::h) (Nat.beq n m)=_
 cases Nat.beq n m<;>cases Nat.beq m STP<;>rfl
theorem Qd{a b:Nat}(h:a≠b):Nat.beq a b=false:=by
 cases hb:Nat.beq a b with
 |false=>rfl
 |true=>exact absurd (Nat.eq_of_beq_eq_true hb) h
theorem Heap.get_set[Syms](h:Heap)(n:Nat)(b:Option Blk)(k:Nat):(h.set n b).get k=if k=n then b else h.get k:=by
 induction h with
 |nil=>
  simp only[Heap.set_nil,Heap.set_cons,Heap.get_nil,Heap.get_cons]
  by_cases hk:k=n
  ·simp[hk]
  ·have:Nat.beq k n=false:=Qd hk
   simp[this,hk]
 |cons x h ih=>
  obtain⟨m,c⟩:=x
  simp only[Heap.set_nil,Heap.set_cons]
  by_cases hm:n=m
  ·subst hm
   simp only[Nat.beq_refl,cond_true,Heap.get_nil,Heap.get_cons]
   by_cases hk:k=n
   ·simp[hk]
   ·have:Nat.beq k n=false:=Qd hk
    simp[this,hk]
  ·have hb:Nat.beq n m=false:=Qd hm
   simp only[hb,cond_false]
   cases hs:Nat.beq m STP with
   |true=>
    simp only[cond_true]
    rw[Heap.get_cons]
    by_cases hk:k=n
    ·subst hk;rw[Nat.beq_refl,if_pos rfl];rfl
    ·rw[Qd hk,if_neg hk];rfl
   |false=>
   simp only[cond_false,Heap.get_nil,Heap.get_cons,ih]
   by_cases hk:k=m
   ·subst hk
    have:¬k=n:=fun e=>hm e.symm
    simp[this]
   ·have:Nat.beq k m=false:=Qd hk
    simp[this]
theorem Heap.get_set_same[Syms](h:Heap)(n:Nat)(b:Option Blk):(h.set n b).get n=b:=by rw[Heap.get_set,if_pos rfl]
theorem Heap.get_set_ne[Syms](h:Heap){n k:Nat}(b:Option Blk)(hne:k≠n):(h.set n b).get k=h.get k:=by rw[Heap.get_set,if_neg hne]
def Zf[Syms](ι:Inj)(w:World)(L:Loc):Blk→Prop
 | .cells rows ro=>∃(cs:Array Value) (e:TypeId) (fz:Nat×Nat),w.heap[L.g]?=some (.cells cs e fz)∧cs.size=L.phys∧L.base+rows.length*L.size≤L.phys∧
    (∀(k:Nat) (row:List AVal),rows[k]?=some row→row.length=L.size∧ ∀(j:Nat) (x:AVal),row[j]?=some x→ ∃v,cs[L.base+k*L.size+j]?=some v∧v.oneCell'=true∧RelV ι x v)∧
    (ro=false→ ∀o,o<L.phys→w.frozen? ⟨L.g,o,none⟩=false)∧(∀t,L.ty=some t→t=e)∧fz.1≤fz.2
 | .iter s pos=>w.heap[L.g]?=some (.stringIter ⟨⟨s⟩⟩ pos)
def Own(ι:Inj)(H:Heap)(g:Nat):Prop:=∃n b L,H.get n=some b∧b.ro=false∧ι n=some L∧L.g=g
structure RelH[Syms](ι:Inj)(H:Heap)(w:World):Prop where
 blk:∀n b,H.get n=some b→ ∃L,ι n=some L∧Zf ι w L b
 inj:∀n m b c L M,H.get n=some b→H.get m=some c→ι n=some L→ι m=some M→L.g=M.g→n=m∨(b.ro=true∧c.ro=true)
 fz:∀g cs,ι.fz g=some cs→(∃e z,w.heap[g]?=some (.cells cs e z))∧ ¬Own ι H g
def X1(ι:Inj)(nx:Nat)(w:World):Prop:=∀n L,ι n=some L→n<nx∧L.g<w.heap.size
structure Step(ι:Inj)(H:Heap)(w:World)(κ:Inj)(H':Heap)(w':World):Prop where
 le:ι.le κ
 os:w'.os=w.os
 tape:w'.tape=w.tape
 output:w'.output=w.output
 size:w.heap.size≤w'.heap.size
 same:∀g,g<w.heap.size→ ¬Own ι H g→w'.heap[g]?=w.heap[g]?
 own:∀g,Own κ H' g→Own ι H g∨w.heap.size≤g
 fzs:∀g cs,κ.fz g=some cs→ι.fz g=some cs∨w.heap.size≤g∨Own ι H g
theorem Step.refl[Syms](ι:Inj)(H:Heap)(w:World):Step ι H w ι H w:=⟨Inj.le_refl ι,rfl,rfl,rfl,Nat.le_refl _,fun _ _ _=>rfl,fun _ h=>.inl h,fun _ _ h=>.inl h⟩
theorem Step.trans[Syms]{ι κ μ:Inj}{H H' H'':Heap}{w w' w'':World}(h:Step ι H w κ H' w')(k:Step κ H' w' μ H'' w''):Step ι H w μ H'' w'' where
 le:=Inj.le_trans h.le k.le
 os:=k.os.trans h.os
 tape:=k.tape.trans h.tape
 output:=k.output.trans h.output
 size:=Nat.le_trans h.size k.size
 same g hg ho:=by
  rw[k.same g (Nat.lt_of_lt_of_le hg h.size) (fun ho'=>(h.own g ho').elim ho (fun hge=>by omega)),h.same g hg ho]
 own g ho:=by
  rcases k.own g ho with h1|h1
  ·exact h.own g h1
  ·exact .inr (Nat.le_trans h.size h1)
 fzs g cs hg:=by
  rcases k.fzs g cs hg with h1|h1|h1
  ·exact h.fzs g cs h1
  ·exact .inr (.inl (Nat.le_trans h.size h1))
  ·rcases h.own g h1 with h2|h2
   ·exact .inr (.inr h2)
   ·exact .inr (.inl h2)
theorem Step.drew[Syms](ι:Inj)(H:Heap)(w:World)(n:Nat):Step ι H w ι H {w with drawn:=n}:=⟨Inj.le_refl ι,rfl,rfl,rfl,Nat.le_refl _,fun _ _ _=>rfl,fun _ h=>.inl h,fun _ _ h=>.inl h⟩
def Heap.sub(H K:Heap):Prop:=∀n b,H.get n=some b→K.get n=some b
theorem Heap.sub_refl(H:Heap):H.sub H:=fun _ _ h=>h
theorem Heap.sub_trans{H K M:Heap}(h:H.sub K)(k:K.sub M):H.sub M:=fun n b e=>k n b (h n b e)
theorem Own.sub{ι:Inj}{H K:Heap}{g:Nat}(h:Own ι H g)(hs:H.sub K):Own ι K g:=
 let⟨n,b,L,h1,h2,h3,h4⟩:=h
 ⟨n,b,L,hs _ _ h1,h2,h3,h4⟩
theorem RelH.sub[Syms]{ι:Inj}{H K:Heap}{w:World}(h:RelH ι K w)(hs:H.sub K):RelH ι H w:=
 ⟨fun n b hb=>h.blk n b (hs n b hb),fun n m b c L M h1 h2 h3 h4 h5=>h.inj n m b c L M (hs _ _ h1) (hs _ _ h2) h3 h4 h5,fun g cs hg=>⟨(h.fz g cs hg).1,fun ho=>(h.fz g cs hg).2 (ho.sub hs)⟩⟩
theorem RelH.fz_keep[Syms]{ι κ:Inj}{H H':Heap}{w w':World}(h:RelH ι H w)(hst:Step ι H w κ H' w')(hκ:κ.fz=ι.fz):∀g cs,κ.fz g=some cs→(∃e z,w'.heap[g]?=some (.cells cs e z))∧ ¬Own κ H' g:=by
 intro g cs hg
 rw[hκ]at hg
 obtain⟨⟨e,z,h1⟩,h2⟩:=h.fz g cs hg
 have hlt:g<w.heap.size:=by
  rcases Nat.lt_or_ge g w.heap.size with h'|h'
  ·exact h'
  ·rw[Array.getElem?_eq_none h']at h1;cases h1
 exact⟨⟨e,z,by rw[hst.same g hlt h2];exact h1⟩,fun ho=>(hst.own g ho).elim h2 (fun h'=>by omega)⟩
theorem Step.sub_right[Syms]{ι κ:Inj}{H H' K:Heap}{w w':World}(h:Step ι H w κ H' w')(hs:K.sub H'):Step ι H w κ K w':=
 ⟨h.le,h.os,h.tape,h.output,h.size,h.same,fun g hg=>h.own g (hg.sub hs),h.fzs⟩
end Go.Av
end
end
section
noncomputable section
namespace Go.Av
inductive Kd where
 |bool|int (k:IntKind)|string|ptr|slice (e:TypeId)|array (n:Nat) (e:TypeId)|struct (fs:List (Nat×TypeId))|func|other
 deriving Inhabited
structure Ty where
 kd:Kd
 size:Nat
 bytes:Nat
 zero:AVal
 deriving Inhabited
def Kd.fits:Kd→TypeDesc→Bool
 | .bool,.bool=>true
 | .int k,.int k'=>k == k'
 | .string,.string=>true
 | .ptr,.pointer _=>true
 | .slice e,.slice e'=>Nat.beq e e'
 | .array n e,.array n' e'=>Nat.beq n n'&&Nat.beq e e'
 | .struct fs,.struct gs=>fs == gs.toList.map fun f=>(f.offset,f.type)
 | .func,.func _ _ _=>true
 | .other,.struct _=>false
 | .other,.array _ _=>false
 | .other,_=>true
 |_,_=>false
def Vh:AVal→Value→Bool
 | .bool a,.bool b=>a == b
 | .int k a,.int k' b=>k == k'&&a == b
 | .str s,.string b=>s == b.data.toList
 | .nilp,.pointer none=>true
 | .nils,.slice none 0 0=>true
 | .nilf,.nilFunc=>true
 | .nili,.nilIface=>true
 |_,_=>false
def Kh:List AVal→List Value→Bool
 |[],[]=>true
 |a::as,v::vs=>Vh a v&&Kh as vs
 |_,_=>false
def W0:AVal→Value→Bool
 | .agg cs,.agg vs=>Kh cs vs.toList
 | .tup cs,.agg vs=>Kh cs vs.toList
 | .any,_=>true
 |a,v=>Vh a v
theorem KI[Syms]{a:AVal}{v:Value}(h:Vh a v=true)(ι:Inj):RelV ι a v∧a.leaf=true∧v.oneCell'=true:=by
 unfold Vh at h
 split at h<;>simp at h
 ·subst h;exact⟨.bool _,rfl,rfl⟩
 ·obtain⟨rfl,rfl⟩:=h;exact⟨.int _ _,rfl,rfl⟩
 ·rename_i b
  obtain⟨⟨l⟩⟩:=b
  simp at h
  subst h
  exact⟨.str _,rfl,rfl⟩
 ·exact⟨.nilp,rfl,rfl⟩
 ·exact⟨.nils,rfl,rfl⟩
 ·exact⟨.nilf,rfl,rfl⟩
 ·exact⟨.nili,rfl,rfl⟩
theorem F9[Syms]:∀{as:List AVal} {vs:List Value},Kh as vs=true→ ∀ι,Qs ι as vs∧(∀c∈as,c.leaf=true)∧ ∀v∈vs,v.oneCell'=true
 |[],[],_,ι=>⟨.nil ι,by simp,by simp⟩
 |a::as,v::vs,h,ι=>by
  simp only[Kh,Bool.and_eq_true]at h
  obtain⟨h1,h2,h3⟩:=KI h.1 ι
  obtain⟨k1,k2,k3⟩:=F9 h.2 ι
  exact⟨.cons h1 k1,by simpa using⟨h2,k2⟩,by simpa using⟨h3,k3⟩⟩
 |[],_::_,h,_=>by simp[Kh]at h
 |_::_,[],h,_=>by simp[Kh]at h
def Dy(P:Program)(t:TypeId)(ty:Ty):Bool:=
 match P.underlying t,P.info? t with
 | some d, some i => ty.kd.fits d && (match d with | .struct fs => !P.stoodInHeld t && fs.toList.all (fun f => f.name != "_") | _ => true) && Nat.beq i.size ty.size && Nat.beq i.bytes ty.bytes && (match i.zero with | some z => W0 ty.zero z | none => (match ty.zero with | .any => true | _ => false))
 |_,_=>false
abbrev TT:=TypeId→Option Ty
def TT.ok(P:Program)(tt:TT):Prop:=∀t ty,tt t=some ty→Dy P t ty=true
inductive Res where
 |val (v:AVal)
 |new (b:Blk) (v:AVal)
 |upd (h:Heap) (v:AVal)
def Res.v:Res→AVal
 | .val v| .new _ v| .upd _ v=>v
def Res.isVal:Res→Bool
 | .val _=>true
 |_=>false
def Res.heap(H:Heap)(m:Nat):Res→Heap
 | .val _=>H
 | .new b _=>H.set m (some b)
 | .upd h _=>h
def wr(k:IntKind)(x:Int):Int:=if k.min≤x∧x≤k.max then x else k.wrap x
def eqb:List UInt8→List UInt8→Bool
 |[],[]=>true
 |a::s,b::t=>Nat.beq a.toNat b.toNat&&eqb s t
 |_,_=>false
theorem MP[Syms]:∀(s t:List UInt8),eqb s t=decide (s=t)
 |[],[]=>by simp[eqb]
 |[],_::_=>by simp[eqb]
 |_::_,[]=>by simp[eqb]
 |a::s,b::t=>by
  simp only[eqb,MP s t]
  by_cases h:a=b
  ·subst h;simp
  ·have:Nat.beq a.toNat b.toNat=false:=Qd (fun e=>h (UInt8.toNat_inj.1 e))
   simp[this,h]
def Fe(op:BinOp)(k:IntKind)(x y:Int):Option AVal:=
 let a:=BitVec.ofInt k.bits x
 let b:=BitVec.ofInt k.bits y
 match op with
 | .and=>some (.int k (k.wrap (a &&& b).toNat))
 | .or=>some (.int k (k.wrap (a ||| b).toNat))
 | .xor=>some (.int k (k.wrap (a ^^^ b).toNat))
 | .andNot=>some (.int k (k.wrap (a &&& ~~~b).toNat))
 |_=>none
def Yn(tt:TT)(op:BinOp)(t:TypeId):AVal→AVal→Option AVal
 | .int k a,.int k' b=>
   match op with
   | .shl=>if 0≤b then some (.int k (wr k (a*2^min b.toNat k.bits)))else none
   | .shr=>if 0≤b then some (.int k (a.fdiv (2^min b.toNat k.bits)))else none
   |_=>
    if k == k' then
     match op with
     | .add=>some (.int k (wr k (a+b)))
     | .sub=>some (.int k (wr k (a-b)))
     | .mul=>some (.int k (wr k (a*b)))
     | .quo=>if b=0 then none else some (.int k (wr k (a.tdiv b)))
     | .rem=>if b=0 then none else some (.int k (a.tmod b))
     | .eql=>some (.bool (decide (a=b)))
     | .neq=>some (.bool (decide (a≠b)))
     | .lss=>some (.bool (decide (a<b)))
     | .leq=>some (.bool (decide (a≤b)))
     | .gtr=>some (.bool (decide (b<a)))
     | .geq=>some (.bool (decide (b≤a)))
     |op=>Fe op k a b
    else none
 | .str s,.str u=>
   match op with
   | .add=>if(s.length+u.length:Nat)≤9223372036854775807 then some (.str (s++u))else none
   | .eql=>some (.bool (eqb s u))
   | .neq=>some (.bool (!eqb s u))
   | .lss=>some (.bool (Op.bytesLess s u))
   | .leq=>some (.bool (Op.bytesLess s u||eqb s u))
   | .gtr=>some (.bool (!(Op.bytesLess s u||eqb s u)))
   | .geq=>some (.bool (!Op.bytesLess s u))
   |_=>none
 | .bool a,.bool b=>
   match tt t,op with
   |some ⟨.bool,_,_,_⟩,.eql=>some (.bool (decide (a=b)))
   |some ⟨.bool,_,_,_⟩,.neq=>some (.bool (decide (a≠b)))
   |_,_=>none
 |_,_=>none
def Qm(row:List AVal)(off:Nat)(cs:List AVal):List AVal:=row.take off++cs++row.drop (off+cs.length)
def Qw(cs:List AVal):Bool:=cs.all (·.leaf)
def WE(place:Nat→Option (Nat×Nat)):List AVal→List (Nat×AVal)→Option (List AVal)
 |row,[]=>some row
 |row,(i,v)::rest=>
  match place i with
  |some (off,size)=>if v.cells.length=size∧off+size≤row.length∧Qw v.cells=true then WE place (Qm row off v.cells) rest else none
  |none=>none
def Zq(tt:TT)(fs:List (Nat×TypeId))(i:Nat):Option (Nat×Nat):=
 match fs[i]? with
 |some (off,t)=>(tt t).map fun ty=>(off,ty.size)
 |none=>none
def QH(H:Heap):AVal→Option (List (List AVal))
 | .nils=>some []
 | .slice n off len _ _=>match H.get n with
   |some (.cells rows _)=>if off+len≤rows.length then some ((rows.drop off).take len)else none
   |_=>none
 | .str s=>some (s.map fun b=>[.int .u8 b.toNat])
 | .vs _ rows=>some rows
 | .zs _=>some []
 |_=>none
def JT:List AVal→Option UInt8
 |[.int .u8 b]=>some (UInt8.ofNat b.toNat)
 |_=>none
def X4:List (List AVal)→Option (List UInt8)
 |[]=>some []
 |r::rs=>match JT r,X4 rs with
  |some b,some bs=>some (b::bs)
  |_,_=>none
def Wx:Value→AVal
 | .bool b=>.bool b
 | .int k n=>.int k n
 | .string s=>.str s.data.toList
 | .pointer none=>.nilp
 | .slice none 0 0=>.nils
 | .nilFunc=>.nilf
 | .nilIface=>.nili
 |_=>.any
def Vl:Value→AVal
 | .agg cs=>.agg (cs.toList.map Wx)
 |v=>Wx v
def WV:Kd→Bool
 | .struct _| .array _ _=>true
 |_=>false
end Go.Av
end
end
section
noncomputable section
namespace Go.Av
def IQ(tt:TT)(t:TypeId):AVal→AVal→Option Bool
 | .nils,.nils=>match tt t with|some ⟨.slice _,_,_,_⟩=>some true|_=>none
 | .slice _ _ _ _ _,.nils=>match tt t with|some ⟨.slice _,_,_,_⟩=>some false|_=>none
 | .nils,.slice _ _ _ _ _=>match tt t with|some ⟨.slice _,_,_,_⟩=>some false|_=>none
 | .nilp,.nilp=>match tt t with|some ⟨.ptr,_,_,_⟩=>some true|_=>none
 | .ptr _ _ _,.nilp=>match tt t with|some ⟨.ptr,_,_,_⟩=>some false|_=>none
 | .nilp,.ptr _ _ _=>match tt t with|some ⟨.ptr,_,_,_⟩=>some false|_=>none
 |_,_=>none
def QB(tt:TT):Nat→List (Nat×TypeId)→List AVal→List AVal→Option Bool
 |_,[],[],[]=>some true
 |k,(off,t)::fs,a::xs,b::ys=>
  if Nat.beq off k then
   match tt t,a,b with
   |some ⟨.int _,_,_,_⟩,.int q x,.int q' y=>if q == q' then(QB tt (k+1) fs xs ys).map (decide (x=y)&& ·)else none
   |some ⟨.bool,_,_,_⟩,.bool x,.bool y=>(QB tt (k+1) fs xs ys).map (decide (x=y)&& ·)
   |some ⟨.string,_,_,_⟩,.str x,.str y=>(QB tt (k+1) fs xs ys).map (eqb x y&& ·)
   |_,_,_=>none
  else none
 |_,_,_,_=>none
def OA:Option Bool→Option Bool→Option Bool
 |some c,some b=>some (c&&b)
 |_,_=>none
def Ct(tt:TT):List (Nat×TypeId)→Nat→List AVal→List AVal→Option Bool
 |[],_,[],[]=>some true
 |(off,t)::fs,k,xs,ys=>
  if Nat.beq off k then
   match tt t with
   |some ⟨.struct gs,sz,_,_⟩=>OA (QB tt 0 gs (xs.take sz) (ys.take sz)) (Ct tt fs (k+sz) (xs.drop sz) (ys.drop sz))
   |_=>OA (QB tt k [(off,t)] (xs.take 1) (ys.take 1)) (Ct tt fs (k+1) (xs.drop 1) (ys.drop 1))
  else none
 |_,_,_,_=>none
def Dp(tt:TT)(t:TypeId)(xs ys:List AVal):Option Bool:=
 match tt t with
 |some ⟨.struct fs,_,_,_⟩=>match QB tt 0 fs xs ys with
  |some b=>some b
  |none=>Ct tt fs 0 xs ys
 |_=>none
def R5(op:BinOp):AVal→AVal→Option Bool
 | .sym i,.sym j=>if Nat.beq i j then(match op with| .eql=>some true| .leq=>some true| .geq=>some true| .neq=>some false| .lss=>some false| .gtr=>some false|_=>none)else none
 |_,_=>none
def Un(tt:TT)(op:BinOp)(t:TypeId)(a b:AVal):Option AVal:=
 match Yn tt op t a b with
 |some v=>some v
 |none=>
 match R5 op a b with
 |some v=>some (.bool v)
 |none=>
  match op with
  | .eql=>(IQ tt t a b).map .bool
  | .neq=>(IQ tt t a b).map fun x=>.bool !x
  |_=>none
def Nk(op:UnOp):AVal→Option AVal
 | .bool b=>match op with| .not=>some (.bool !b)|_=>none
 | .int k n=>match op with
   | .neg=>some (.int k (wr k (0-n)))
   | .xor=>Fe .xor k (if k.signed then -1 else k.max) n
   |_=>none
 |_=>none
def YT(tt:TT)(H:Heap)(e:TypeId)(x:AVal):Option Res:=
 match tt e with
 |some ⟨.int .u8,_,_,_⟩=>
  match x with
  | .nils=>some (.val (.str []))
  | .slice n off len sz cap=>match QH H (.slice n off len sz cap)with
    |some rows=>(X4 rows).map fun s=>.val (.str s)
    |none=>none
  | .vs _ rows=>(X4 rows).map fun s=>.val (.str s)
  |_=>none
 |_=>none
def YS(tt:TT)(H:Heap)(m:Nat)(src dst:TypeId)(x:AVal):Option Res:=
 match tt src,tt dst,x with
 |some _,some ⟨.int k,_,_,_⟩,.int _ n=>some (.val (.int k (wr k n)))
 |some _,some ⟨.string,_,_,_⟩,.str s=>some (.val (.str s))
 |some _,some ⟨.string,_,_,_⟩,.int _ n=>some (.val (.str (Utf8.encode n).data.toList))
 |some _,some ⟨.slice e,_,_,_⟩,.str s=>match tt e with
  |some ⟨.int .u8,_,_,_⟩=>if s.length≤140737488355328 then some (.new (.cells (s.map fun b=>[.int .u8 b.toNat]) false) (.slice m 0 s.length 1 none))else none
  |_=>none
 |some ⟨.slice e,_,_,_⟩,some ⟨.string,_,_,_⟩,x=>YT tt H e x
 |some ⟨.slice e,_,_,_⟩,some ⟨.slice _,_,_,_⟩,.slice n off len sz cap=>match tt e,H.get n with
  |some ⟨.int .u8,_,_,_⟩,some (.cells rows false)=>if Nat.beq src dst=true∧0<len then some (.upd (H.set n (some (.cells rows false))) (.slice n off len sz cap))else none
  |_,_=>none
 |_,_,_=>none
def Z7:Option AVal→Nat→Option Nat
 |none,d=>some d
 |some (.int _ i),_=>if 0≤i then some i.toNat else none
 |some _,_=>none
def Ym(tt:TT)(t:TypeId)(x:AVal)(lo hi mx:Option AVal):Option AVal:=
 match tt t,x with
 |some ⟨.string,_,_,_⟩,.str s=>
  match Z7 lo 0,Z7 hi s.length,mx with
  |some l,some h,none=>if l≤h∧h≤s.length then some (.str ((s.drop l).take (h-l)))else none
  |_,_,_=>none
 |some ⟨.slice e,_,_,_⟩,.nils=>
  match Z7 lo 0,Z7 hi 0,Z7 mx 0,tt e with
  |some 0,some 0,some 0,some _=>if hi.isNone=true∧mx.isSome=true then none else some .nils
  |_,_,_,_=>none
 |some ⟨.slice e,_,_,_⟩,.slice n off len sz cap=>
  match Z7 lo 0,Z7 hi len,Z7 mx len,tt e with
  |some l,some h,some mm,some ety=>
   if l≤h∧h≤len∧h≤mm∧mm≤len∧(hi.isNone=true→mx.isNone=true)∧ety.size=sz then
    some (.slice n (off+l) (h-l) sz (match mx with|some _=>some (mm-l)|none=>cap.map (· -l)))
   else none
  |_,_,_,_=>none
 |some ⟨.slice e,_,_,_⟩,.vs sz rows=>
  match Z7 lo 0,Z7 hi rows.length,Z7 mx rows.length,tt e with
  |some l,some h,some mm,some ety=>
   if l≤h∧h≤rows.length∧h≤mm∧mm≤rows.length∧(hi.isNone=true→mx.isNone=true)∧ety.size=sz then
    match mx with
    |none=>some (.vs sz ((rows.drop l).take (h-l)))
    |some _=>if l=0∧mm=0 then some (.zs sz)else none
   else none
  |_,_,_,_=>none
 |_,_=>none
def ZI(tt:TT)(t:TypeId)(x ix:AVal):Option AVal:=
 match tt t,x,ix with
 |some ⟨.slice e,_,_,_⟩,.slice n off len sz _,.int _ i=>
  match tt e with
  |some ety=>if 0≤i∧i<len∧ety.size=sz then some (.ptr n (off+i.toNat) 0)else none
  |none=>none
 |some ⟨.slice e,_,_,_⟩,.vs sz rows,.int _ i=>
  match tt e with
  |some ety=>if 0≤i∧i<rows.length∧ety.size=sz then some (.vp (rows.getD i.toNat []) 0)else none
  |none=>none
 |some ⟨.array len e,_,_,_⟩,.ptr n k j,.int _ i=>
  match tt e with
  |some ety=>if 0≤i∧i<len then some (.ptr n k (j+i.toNat*ety.size))else none
  |none=>none
 |_,_,_=>none
def apart(tt:TT)(t:TypeId)(cs:List AVal)(off:Nat):Option AVal:=
 match tt t with
 |some ty=>if WV ty.kd then(if off+ty.size≤cs.length then some (.agg ((cs.drop off).take ty.size))else none)else cs[off]?
 |none=>none
def JY(tt:TT)(t:TypeId)(x ix:AVal):Option AVal:=
 match tt t,x,ix with
 |some ⟨.string,_,_,_⟩,.str s,.int _ i=>if 0≤i then(match s[i.toNat]? with|some b=>some (.int .u8 b.toNat)|none=>none)else none
 |some ⟨.array len e,_,_,_⟩,.agg cs,.int _ i=>
  match tt e with
  |some ety=>if 0≤i∧i<len then apart tt e cs (i.toNat*ety.size)else none
  |none=>none
 |_,_,_=>none
def J7(tt:TT)(H:Heap)(t:TypeId)(x:AVal):Option AVal:=
 match x with
 | .ptr n k j=>
   match H.get n,tt t with
   |some (.cells rows _),some ty=>
    match rows[k]? with
    |some row=>if WV ty.kd then(if j+ty.size≤row.length then some (.agg ((row.drop j).take ty.size))else none)else row[j]?
    |none=>none
   |_,_=>none
 | .vp row j=>
   match tt t with
   |some ty=>if WV ty.kd then(if j+ty.size≤row.length then some (.agg ((row.drop j).take ty.size))else none)else row[j]?
   |none=>none
 |_=>none
def JU(tt:TT)(H:Heap)(t:TypeId)(x v:AVal):Option Heap:=
 match x with
 | .ptr n k j=>
   match H.get n,tt t with
   |some (.cells rows false),some ty=>
    match rows[k]? with
    |some row=>if v.cells.length=ty.size∧Qw v.cells=true∧j+ty.size≤row.length then some (H.set n (some (.cells (rows.set k (Qm row j v.cells)) false)))else none
    |none=>none
   |_,_=>none
 |_=>none
def VQ(tt:TT)(s:TypeId)(x:AVal)(f:Nat):Option AVal:=
 match tt s,x with
 |some ⟨.struct fs,_,_,_⟩,.ptr n k j=>
  match fs[f]? with
  |some (off,t)=>match tt t with
   |some ty=>if ty.size=0 then none else some (.ptr n k (j+off))
   |none=>none
  |none=>none
 |some ⟨.struct fs,_,_,_⟩,.vp row j=>
  match fs[f]? with
  |some (off,t)=>match tt t with
   |some ty=>if ty.size=0 then none else some (.vp row (j+off))
   |none=>none
  |none=>none
 |_,_=>none
def EY(tt:TT)(s:TypeId)(x:AVal)(f:Nat):Option AVal:=
 match tt s,x with
 |some ⟨.struct fs,_,_,_⟩,.agg cs=>
  match fs[f]? with
  |some (off,t)=>apart tt t cs off
  |none=>none
 |_,_=>none
def G0(tt:TT)(t:TypeId)(parts:List (Nat×AVal)):Option AVal:=
 match tt t with
 |some ⟨.struct fs,_,_,.agg zs⟩=>if(fs.all fun f=>(tt f.2).isSome)=true∧Qw zs=true then(WE (Zq tt fs) zs parts).map .agg else none
 |some ⟨.struct fs,_,_,.tup zs⟩=>if(fs.all fun f=>(tt f.2).isSome)=true∧Qw zs=true then(WE (Zq tt fs) zs parts).map .agg else none
 |some ⟨.array _ e,_,_,.agg zs⟩=>match tt e with
  |some ety=>if Qw zs=true then(WE (fun i=>some (i*ety.size,ety.size)) zs parts).map .agg else none
  |none=>none
 |_=>none
def Gy(size:Nat):Nat→List AVal→List (List AVal)
 |0,_=>[]
 |n+1,l=>l.take size::Gy size n (l.drop size)
def Qt(z:List AVal):Nat→List AVal
 |0=>[]
 |n+1=>z++Qt z n
def XV(tt:TT)(m:Nat)(t:TypeId)(len:Nat)(parts:List (Nat×AVal)):Option Res:=
 match tt t with
 |some ⟨.slice e,_,_,_⟩=>match tt e with
  |some ety=>
   if 0<ety.size∧ety.zero.cells.length=ety.size∧Qw ety.zero.cells=true∧len*ety.size≤16777216 then
    (WE (fun i=>some (i*ety.size,ety.size)) (Qt ety.zero.cells len) parts).map fun row=>.new (.cells (Gy ety.size len row) false) (.slice m 0 len ety.size (some len))
   else none
  |none=>none
 |_=>none
def WD(tt:TT)(m:Nat)(t:TypeId)(l c:AVal):Option Res:=
 match tt t,l,c with
 |some ⟨.slice e,_,_,_⟩,.int _ l,.int _ c=>match tt e with
  |some ety=>
   if 0<ety.size∧ety.zero.cells.length=ety.size∧Qw ety.zero.cells=true∧0≤l∧l≤c∧c*ety.bytes≤281474976710656∧c≤281474976710656 then
    some (.new (.cells (List.replicate c.toNat ety.zero.cells) false) (.slice m 0 l.toNat ety.size (some c.toNat)))
   else none
  |none=>none
 |_,_,_=>none
def Fg(tt:TT)(m:Nat)(argTypes:Array TypeId)(s x:AVal):Option Res:=
 match(argTypes[0]?).bind tt,(argTypes[1]?).bind tt,s,x with
 |some ⟨.slice e,_,_,_⟩,some ⟨.int _,_,_,_⟩,.nils,.int .i64 n=>match tt e with
  |some ety=>if 0<n∧0<ety.size∧ety.zero.cells.length=ety.size∧Qw ety.zero.cells=true∧n*ety.bytes≤140737488355328∧n≤140737488355328 then
    some (.new (.cells (List.replicate n.toNat ety.zero.cells) false) (.slice m 0 n.toNat ety.size none))else none
  |none=>none
 |_,_,_,_=>none
def Hi:Kd→Bool
 | .slice _| .string=>true
 |_=>false
def Jc(tt:TT)(H:Heap)(m:Nat)(argTypes:Array TypeId)(s x:AVal):Option Res:=
 match argTypes[0]? with
 |some t=>match tt t with
  |some ⟨.slice e,_,_,_⟩=>match tt e,(argTypes[1]?).bind tt with
   |some ety,some xty=>
    if Hi xty.kd=true then
    match QH H x with
    |some news=>
     if(news.all fun r=>Nat.beq r.length ety.size)=true∧0<ety.size∧ety.zero.cells.length=ety.size∧Qw ety.zero.cells=true then
      match s with
      | .zs sz=>if news.length=0 then some (.val (.zs sz))else if news.length*ety.bytes≤140737488355328∧news.length≤140737488355328 then some (.new (.cells news false) (.slice m 0 news.length ety.size none))else none
      | .nils=>if news.length=0 then some (.val .nils)else if news.length*ety.bytes≤140737488355328∧news.length≤140737488355328 then some (.new (.cells news false) (.slice m 0 news.length ety.size none))else none
      | .slice n off len sz cap=>
        if sz=ety.size∧(len+news.length)*ety.bytes≤140737488355328∧len+news.length≤140737488355328 then
         if news.length=0 then some (.val s)else
         match QH H s with
         |some olds=>
          match cap with
          |some c=>if c<len+news.length then some (.new (.cells (olds++news) false) (.slice m 0 (len+news.length) sz none))
           else match H.get n with
            |some (.cells rows false)=>if off+len+news.length≤rows.length then
              some (.upd (H.set n (some (.cells (rows.take (off+len)++news++rows.drop (off+len+news.length)) false))) (.slice n off (len+news.length) sz cap))else none
            |_=>none
          |none=>match H.get n with
           |some (.cells _ false)=>some (.upd ((H.set n none).set m (some (.cells (olds++news) false))) (.slice m 0 (len+news.length) sz none))
           |_=>none
         |none=>none
        else none
      | .tnils=>if news.length=0 then some (.val .tnils)else if news.length*ety.bytes≤140737488355328∧news.length≤140737488355328 then some (.new (.cells news false) (.tslice m news.length ety.size e))else none
      | .tslice n len sz t=>
        if sz=ety.size∧t=e∧(len+news.length)*ety.bytes≤140737488355328∧len+news.length≤140737488355328 then
         if news.length=0 then some (.val (.tslice n len sz t))else
         match QH H (.slice n 0 len sz none)with
         |some olds=>match H.get n with
           |some (.cells _ false)=>some (.upd ((H.set n none).set m (some (.cells (olds++news) false))) (.tslice m (len+news.length) sz t))
           |_=>none
         |none=>none
        else none
      |_=>none
     else none
    |none=>none
    else none
   |_,_=>none
  |_=>none
 |none=>none
def OB(tt:TT)(argTypes:Array TypeId)(x:AVal):Option AVal:=
 match(argTypes[0]?).bind tt,x with
 |some ⟨.string,_,_,_⟩,.str s=>some (.int .i64 s.length)
 |some ⟨.slice _,_,_,_⟩,.nils=>some (.int .i64 0)
 |some ⟨.slice _,_,_,_⟩,.slice _ _ len _ _=>some (.int .i64 len)
 |some ⟨.slice _,_,_,_⟩,.vs _ rows=>some (.int .i64 rows.length)
 |some ⟨.slice _,_,_,_⟩,.zs _=>some (.int .i64 0)
 |some ⟨.array n _,_,_,_⟩,_=>some (.int .i64 n)
 |_,_=>none
def PL(tt:TT)(argTypes:Array TypeId)(x:AVal):Option AVal:=
 match(argTypes[0]?).bind tt,x with
 |some ⟨.slice _,_,_,_⟩,.nils=>some (.int .i64 0)
 |some ⟨.slice _,_,_,_⟩,.slice _ _ _ _ (some c)=>some (.int .i64 c)
 |_,_=>none
def Np(a b:AVal):Option AVal:=
 match a,b with
 | .int k x,.int _ y=>some (.int k (if y<x then y else x))
 |_,_=>none
def Nq(a b:AVal):Option AVal:=
 match a,b with
 | .int k x,.int _ y=>some (.int k (if x<y then y else x))
 |_,_=>none
def Do(H:Heap)(x:AVal):Option Res:=
 match x with
 | .obj n=>match H.get n with
   |some (.iter s pos)=>if pos<s.length then
     some (.upd (H.set n (some (.iter s (pos+(Utf8.decode ⟨⟨s⟩⟩ pos).2)))) (.tup [.bool true,.int .i64 pos,.int .i32 (Utf8.decode ⟨⟨s⟩⟩ pos).1]))
    else some (.val (.tup [.bool false]))
   |_=>none
 |_=>none
def WF(tt:TT)(H:Heap)(m:Nat)(b:Builtin)(argTypes:Array TypeId)(args:List AVal):Option Res:=
 match b,args with
 | .len,[x]=>(OB tt argTypes x).map .val
 | .append,[s,x]=>match Jc tt H m argTypes s x with|some r=>some r|none=>Fg tt m argTypes s x
 | .min,[a,b]=>(Np a b).map .val
 | .max,[a,b]=>(Nq a b).map .val
 | .cap,[x]=>(PL tt argTypes x).map .val
 |_,_=>none
def OS(m:Nat)(e:TypeId):AVal→AVal
 | .nilp=>.tagp m e
 | .nils=>.tnils
 |x=>x
def Jh(tt:TT)(m:Nat)(e:TypeId)(cs:List AVal):List AVal:=
 match tt e with
 |some ⟨_,_,_,.tup _⟩=>cs.map (OS m e)
 |_=>cs
def aop(tt:TT)(ρ:Operand→AVal)(H:Heap)(m:Nat):Op→Option Res
 | .move x| .assign x=>some (.val (ρ x))
 | .pick c a b=>match ρ c with
   | .bool t=>some (.val (match ρ a,ρ b with| .bool x,.bool y=>.bool (if t then x else y)|x,y=>if t then x else y))
   |_=>none
 | .alloc e=>match tt e with
   |some ty=>if Qw ty.zero.cells=true then some (.new (.cells [ty.zero.cells] false) (.ptr m 0 0))else none
   |none=>none
 | .box e x=>if Qw (ρ x).cells=true then some (.new (.cells [Jh tt m e (ρ x).cells] false) (.ptr m 0 0))else none
 | .build t parts=>(G0 tt t (parts.toList.map fun p=>(p.1,ρ p.2))).map .val
 | .buildSlice t len parts=>XV tt m t len (parts.toList.map fun p=>(p.1,ρ p.2))
 | .load t x=>(J7 tt H t (ρ x)).map .val
 | .store t x v=>(JU tt H t (ρ x) (ρ v)).map fun h=>.upd h .any
 | .nilCheck x=>match ρ x with
   | .ptr n k j=>some (.val (.ptr n k j))
   | .vp row j=>some (.val (.vp row j))
   | .func f cs=>some (.val (.func f cs))
   |_=>none
 | .binOp op t x y _=>match ρ x,ρ y with
   | .agg xs,.agg ys=>match op with
     | .eql=>(Dp tt t xs ys).map fun b=>.val (.bool b)
     | .neq=>(Dp tt t xs ys).map fun b=>.val (.bool !b)
     |_=>none
   |a,b=>(Un tt op t a b).map .val
 | .unOp op _ x=>(Nk op (ρ x)).map .val
 | .convert src dst x=>YS tt H m src dst (ρ x)
 | .makeFunc (.func f) first caps=>if first.size=0 then(bif Nat.ble BND f then none else some (.val (.func f (caps.toList.map ρ))))else(bif Nat.beq caps.size 0 then some (.val (.func (f+BND) (first.toList.map ρ)))else none)
 | .makeSlice t l c=>WD tt m t (ρ l) (ρ c)
 | .slice t x lo hi mx=>(Ym tt t (ρ x) (lo.map ρ) (hi.map ρ) (mx.map ρ)).map .val
 | .fieldAddr s x f=>(VQ tt s (ρ x) f).map .val
 | .field s x f=>(EY tt s (ρ x) f).map .val
 | .indexAddr t x ix=>(ZI tt t (ρ x) (ρ ix)).map .val
 | .index t x ix=>(JY tt t (ρ x) (ρ ix)).map .val
 | .range t x=>match tt t,ρ x with
   |some ⟨.string,_,_,_⟩,.str s=>some (.new (.iter s 0) (.obj m))
   |_,_=>none
 | .next it true=>Do H (ρ it)
 | .extract t ix=>match ρ t with
   | .tup vs=>(vs[ix]?).map .val
   |_=>none
 | .call {callee:=.builtin b,args,argTypes}=>WF tt H m b argTypes (args.toList.map ρ)
 |_=>none
end Go.Av
end
end
section
noncomputable section
namespace Go.Av
theorem Zf.keep[Syms]{ι κ:Inj}{w w':World}{L:Loc}{b:Blk}(h:Zf ι w L b)(hle:ι.le κ)(hk:w'.heap[L.g]?=w.heap[L.g]?):Zf κ w' L b:=by
 cases b with
 |cells rows ro=>
  obtain⟨cs,e,fz,h1,h2,h3,h4,h5,ht⟩:=h
  refine⟨cs,e,fz,by rw[hk];exact h1,h2,h3,fun k row hr=>?_,fun hro o ho=>?_,ht⟩
  ·obtain⟨h6,h7⟩:=h4 k row hr
   refine⟨h6,fun j x hx=>?_⟩
   obtain⟨v,h8,h9,h10⟩:=h7 j x hx
   exact⟨v,h8,h9,h10.mono hle⟩
  ·rw[World.frozen?_of_block (w:=w) hk];exact h5 hro o ho
 |iter s pos=>simp only[Zf]at h ⊢;rw[hk];exact h
def Inj.put(ι:Inj)(m:Nat)(L:Loc):Inj:=⟨fun n=>if n=m then some L else ι n,ι.fz⟩
theorem Inj.put_same(ι:Inj)(m:Nat)(L:Loc):(ι.put m L) m=some L:=by simp[Inj.put]
theorem Inj.put_ne(ι:Inj){m n:Nat}(L:Loc)(h:n≠m):(ι.put m L) n=ι n:=by simp[Inj.put,h]
theorem Inj.le_put[Syms]{ι:Inj}{m:Nat}(L:Loc)(hm:ι m=none):ι.le (ι.put m L):=by
 refine⟨fun n M h=>?_,fun _ _ h=>h⟩
 rw[Inj.put_ne ι L (fun e=>by subst e;rw[hm]at h;cases h)]
 exact h
def Kj(ι:Inj)(w:World):Prop:=∀n L,ι n=some L→L.g<w.heap.size
theorem FN[Syms]{ι:Inj}{H:Heap}{w w':World}{m:Nat}{L:Loc}{b:Blk}{o:Obj}(hH:RelH ι H w)(hl:Kj ι w)(hm:ι m=none)(hw:w'.heap=w.heap.push o)
 (hos:w'.os=w.os) (htape:w'.tape=w.tape) (hout:w'.output=w.output) (hg:L.g=w.heap.size) (hb:Zf (ι.put m L) w' L b):
 RelH (ι.put m L) (H.set m (some b)) w'∧Step ι H w (ι.put m L) (H.set m (some b)) w':=by
 have hle:=Inj.le_put L hm
 have hold:∀g,g<w.heap.size→w'.heap[g]?=w.heap[g]?:=fun g hg=>by rw[hw,Array.getElem?_push,if_neg (by omega)]
 refine(fun(X:_∧_∧_)=>⟨⟨X.1,X.2.1,hH.fz_keep X.2.2 rfl⟩,X.2.2⟩) ⟨fun n c hc=>?_,fun n k c d M M' h1 h2 h3 h4 h5=>?_,⟨hle,hos,htape,hout,by rw[hw];simp,fun g hg _=>hold g hg,fun g hgo=>?_,fun _ _ h=>.inl h⟩⟩
 ·rw[Heap.get_set]at hc
  by_cases hn:n=m
  ·subst hn
   rw[if_pos rfl]at hc
   cases hc
   exact⟨L,Inj.put_same _ _ _,hb⟩
  ·rw[if_neg hn]at hc
   obtain⟨M,hM,hB⟩:=hH.blk n c hc
   exact⟨M,hle.1 _ _ hM,hB.keep hle (hold _ (hl _ _ hM))⟩
 ·rw[Heap.get_set]at h1 h2
  by_cases hn:n=m
  ·by_cases hk:k=m
   ·exact .inl (hn.trans hk.symm)
   ·subst hn
    rw[if_neg hk]at h2
    rw[Inj.put_same]at h3
    rw[Inj.put_ne _ _ hk]at h4
    cases h3
    have:=hl _ _ h4
    omega
  ·by_cases hk:k=m
   ·subst hk
    rw[if_neg hn]at h1
    rw[Inj.put_same]at h4
    rw[Inj.put_ne _ _ hn]at h3
    cases h4
    have:=hl _ _ h3
    omega
   ·rw[if_neg hn]at h1
    rw[if_neg hk]at h2
    rw[Inj.put_ne _ _ hn]at h3
    rw[Inj.put_ne _ _ hk]at h4
    exact hH.inj n k c d M M' h1 h2 h3 h4 h5
 ·obtain⟨n,c,M,h1,h2,h3,h4⟩:=hgo
  rw[Heap.get_set]at h1
  by_cases hn:n=m
  ·subst hn
   rw[Inj.put_same]at h3
   cases h3
   exact .inr (by omega)
  ·rw[if_neg hn]at h1
   rw[Inj.put_ne _ _ hn]at h3
   exact .inl ⟨n,c,M,h1,h2,h3,h4⟩
theorem Up[Syms]{ι:Inj}{H:Heap}{w w':World}{n:Nat}{L:Loc}{b b':Blk}(hH:RelH ι H w)(hn:H.get n=some b)(hro:b.ro=false)(hL:ι n=some L)
 (hsz:w'.heap.size=w.heap.size) (hold:∀g,g≠L.g→w'.heap[g]?=w.heap[g]?)
 (hos:w'.os=w.os) (htape:w'.tape=w.tape) (hout:w'.output=w.output) (hb:Zf ι w' L b') (_hro':b'.ro=false):
 RelH ι (H.set n (some b')) w'∧Step ι H w ι (H.set n (some b')) w':=by
 refine(fun(X:_∧_∧_)=>⟨⟨X.1,X.2.1,hH.fz_keep X.2.2 rfl⟩,X.2.2⟩) ⟨fun k c hc=>?_,fun x y c d M M' h1 h2 h3 h4 h5=>?_,⟨Inj.le_refl ι,hos,htape,hout,by omega,fun g hg ho=>hold g (fun e=>ho ⟨n,b,L,hn,hro,hL,e.symm⟩),fun g hgo=>?_,fun _ _ h=>.inl h⟩⟩
 ·rw[Heap.get_set]at hc
  by_cases hk:k=n
  ·subst hk
   rw[if_pos rfl]at hc
   cases hc
   exact⟨L,hL,hb⟩
  ·rw[if_neg hk]at hc
   obtain⟨M,hM,hB⟩:=hH.blk k c hc
   refine⟨M,hM,hB.keep (Inj.le_refl ι) (hold _ (fun e=>?_))⟩
   rcases hH.inj k n c b M L hc hn hM hL e with h|h
   ·exact hk h
   ·rw[hro]at h;cases h.2
 ·have old:∀z f,(H.set n (some b')).get z=some f→ ∃f',H.get z=some f'∧(f'.ro=true→f.ro=true):=by
   intro z f hz
   rw[Heap.get_set]at hz
   by_cases e:z=n
   ·subst e
    exact⟨b,hn,fun h=>by rw[hro]at h;cases h⟩
   ·rw[if_neg e]at hz
    exact⟨f,hz,id⟩
  obtain⟨c',hc',ec⟩:=old x c h1
  obtain⟨d',hd',ed⟩:=old y d h2
  rcases hH.inj x y c' d' M M' hc' hd' h3 h4 h5 with h|h
  ·exact .inl h
  ·exact .inr ⟨ec h.1,ed h.2⟩
 ·obtain⟨k,c,M,h1,h2,h3,h4⟩:=hgo
  rw[Heap.get_set]at h1
  by_cases hk:k=n
  ·subst hk
   rw[hL]at h3
   cases h3
   exact .inl ⟨k,b,L,hn,hro,hL,h4⟩
  ·rw[if_neg hk]at h1
   exact .inl ⟨k,c,M,h1,h2,h3,h4⟩
theorem Mx[Syms]{ι:Inj}{H:Heap}{w w':World}{n m:Nat}{L M:Loc}{b b':Blk}(hH:RelH ι H w)(hn:H.get n=some b)(hro:b.ro=false)(hL:ι n=some L)
 (hm:ι m=none) (hM:M.g=L.g) (hsz:w'.heap.size=w.heap.size) (hold:∀g,g≠L.g→w'.heap[g]?=w.heap[g]?)
 (hos:w'.os=w.os) (htape:w'.tape=w.tape) (hout:w'.output=w.output) (hb:Zf (ι.put m M) w' M b'):
 RelH (ι.put m M) ((H.set n none).set m (some b')) w'∧Step ι H w (ι.put m M) ((H.set n none).set m (some b')) w':=by
 have hle:=Inj.le_put M hm
 have hnm:n≠m:=fun e=>by subst e;rw[hm]at hL;cases hL
 have old:∀z f,((H.set n none).set m (some b')).get z=some f→(z=m∧f=b')∨(z≠m∧z≠n∧H.get z=some f):=by
  intro z f hz
  rw[Heap.get_set]at hz
  by_cases e:z=m
  ·subst e;rw[if_pos rfl]at hz;cases hz;exact .inl ⟨rfl,rfl⟩
  ·rw[if_neg e,Heap.get_set]at hz
   by_cases e':z=n
   ·subst e';rw[if_pos rfl]at hz;cases hz
   ·rw[if_neg e']at hz;exact .inr ⟨e,e',hz⟩
 have far:∀z f X,z≠n→H.get z=some f→ι z=some X→X.g≠L.g:=by
  intro z f X hz hf hX e
  rcases hH.inj z n f b X L hf hn hX hL e with h|h
  ·exact hz h
  ·rw[hro]at h;cases h.2
 refine(fun(X:_∧_∧_)=>⟨⟨X.1,X.2.1,hH.fz_keep X.2.2 rfl⟩,X.2.2⟩) ⟨fun z f hz=>?_,fun x y c d X Y h1 h2 h3 h4 h5=>?_,⟨hle,hos,htape,hout,by omega,fun g hg ho=>hold g (fun e=>ho ⟨n,b,L,hn,hro,hL,e.symm⟩),fun g hgo=>?_,fun _ _ h=>.inl h⟩⟩
 ·rcases old z f hz with⟨rfl,rfl⟩|⟨e1,e2,hf⟩
  ·exact⟨M,Inj.put_same _ _ _,hb⟩
  ·obtain⟨X,hX,hB⟩:=hH.blk z f hf
   exact⟨X,hle.1 _ _ hX,hB.keep hle (hold _ (far z f X e2 hf hX))⟩
 ·rcases old x c h1 with⟨rfl,rfl⟩|⟨e1,e2,hf⟩
  ·rcases old y d h2 with⟨rfl,rfl⟩|⟨e3,e4,hf'⟩
   ·exact .inl rfl
   ·rw[Inj.put_same]at h3
    rw[Inj.put_ne _ _ e3]at h4
    cases h3
    exact absurd (h5.symm.trans hM) (far y d Y e4 hf' h4)
  ·rcases old y d h2 with⟨rfl,rfl⟩|⟨e3,e4,hf'⟩
   ·rw[Inj.put_same]at h4
    rw[Inj.put_ne _ _ e1]at h3
    cases h4
    exact absurd (h5.trans hM) (far x c X e2 hf h3)
   ·rw[Inj.put_ne _ _ e1]at h3
    rw[Inj.put_ne _ _ e3]at h4
    exact hH.inj x y c d X Y hf hf' h3 h4 h5
 ·obtain⟨z,f,X,h1,h2,h3,h4⟩:=hgo
  rcases old z f h1 with⟨rfl,rfl⟩|⟨e1,e2,hf⟩
  ·rw[Inj.put_same]at h3
   cases h3
   exact .inl ⟨n,b,L,hn,hro,hL,by rw[←h4,hM]⟩
  ·rw[Inj.put_ne _ _ e1]at h3
   exact .inl ⟨z,f,X,hf,h2,h3,h4⟩
def Out[Syms](ι:Inj)(H:Heap)(w:World)(m:Nat)(r:Res)(run:Result Next):Prop:=
 ∃v w' κ,(run= .ok (.value v) w'∨(run= .ok .skip w'∧v=undef))∧RelV κ r.v v∧RelH κ (r.heap H m) w'∧Step ι H w κ (r.heap H m) w'∧
  (∀n L,κ n=some L→ι n=some L∨(n=m∧L.g<w'.heap.size))∧(r.isVal=true→κ=ι)
theorem Out.val[Syms]{ι:Inj}{H:Heap}{w:World}{m:Nat}{x:AVal}{v:Value}{run:Result Next}(hH:RelH ι H w)(hr:run= .ok (.value v) w)(hv:RelV ι x v):
 Out ι H w m (.val x) run:=⟨v,w,ι,.inl hr,hv,hH,Step.refl ι H w,fun _ _ h=>.inl h,fun _=>rfl⟩
theorem Out.new[Syms]{ι:Inj}{H:Heap}{w w':World}{m:Nat}{x:AVal}{v:Value}{run:Result Next}{L:Loc}{b:Blk}{o:Obj}(hH:RelH ι H w)(hl:Kj ι w)(hm:ι m=none)
 (hr:run= .ok (.value v) w') (hw:w'.heap=w.heap.push o) (hos:w'.os=w.os) (htape:w'.tape=w.tape) (hout:w'.output=w.output) (hg:L.g=w.heap.size)
 (hb:Zf (ι.put m L) w' L b) (hv:RelV (ι.put m L) x v):Out ι H w m (.new b x) run:=by
 obtain⟨h1,h2⟩:=FN hH hl hm hw hos htape hout hg hb
 refine⟨v,w',ι.put m L,.inl hr,hv,h1,h2,fun n M hn=>?_,fun h=>by cases h⟩
 by_cases e:n=m
 ·subst e
  rw[Inj.put_same]at hn
  cases hn
  exact .inr ⟨rfl,by rw[hw,Array.size_push];omega⟩
 ·rw[Inj.put_ne _ _ e]at hn
  exact .inl hn
theorem ND{P:Program}{t:TypeId}{ty:Ty}(h:Dy P t ty=true):∃d i,P.underlying t=some d∧P.info? t=some i∧ty.kd.fits d=true∧i.size=ty.size∧i.bytes=ty.bytes∧
 ((∃ z, i.zero = some z ∧ W0 ty.zero z = true) ∨ ty.zero = .any) ∧ ∀ fs, d = .struct fs → P.stoodInHeld t = false ∧ ∀ f ∈ fs.toList, f.name ≠ "_" := by
 unfold Dy at h
 split at h
 ·rename_i d i hd hi
  simp only[Bool.and_eq_true]at h
  obtain⟨⟨⟨⟨h1,h0⟩,h2⟩,h3⟩,h4⟩:=h
  refine⟨d,i,hd,hi,h1,Nat.eq_of_beq_eq_true h2,Nat.eq_of_beq_eq_true h3,?_,fun fs hfs=>?_⟩
  ·split at h4
   ·rename_i z hz;exact .inl ⟨z,hz,h4⟩
   ·right
    split at h4
    ·assumption
    ·cases h4
  ·subst hfs
   simp only[Bool.and_eq_true,Bool.not_eq_true',List.all_eq_true,bne_iff_ne]at h0
   exact h0
 ·cases h
theorem BA{cs:List AVal}{v:Value}(h:W0 (.tup cs) v=true):W0 (.agg cs) v=true:=by
 cases v with
 |agg vs=>exact h
 |_=>simp[W0,Vh]at h
theorem Zy[Syms]{x:AVal}{v:Value}(h:W0 x v=true)(hx:Qw x.cells=true)(ι:Inj):Qs ι x.cells v.cells.toList∧ ∀u∈v.cells.toList,u.oneCell'=true:=by
 have hx':∀c∈x.cells,c.leaf=true:=by simpa[Qw]using hx
 cases x with
 |agg cs=>
  cases v with
  |agg vs=>obtain⟨h1,_,h3⟩:=F9 h ι;exact⟨h1,h3⟩
  |_=>simp[W0,Vh]at h
 |any=>simp[AVal.cells,AVal.leaf]at hx'
 |tup vs=>simp[AVal.cells,AVal.leaf]at hx'
 |_=>exact(KI (by simpa[W0]using h) ι).1.cells hx'
end Go.Av
end
end
section
set_option linter.unusedVariables false
noncomputable section
namespace Go.Av
def QE[Syms](ι:Inj)(cs:Array Value)(base size:Nat)(rows:List (List AVal)):Prop:=
 ∀(k:Nat) (row:List AVal),rows[k]?=some row→row.length=size∧ ∀(j:Nat) (x:AVal),row[j]?=some x→ ∃v,cs[base+k*size+j]?=some v∧v.oneCell'=true∧RelV ι x v
theorem XJ{a b s:Nat}(h:a<b):a*s+s≤b*s:=by
 have:=Nat.mul_le_mul_right s (Nat.succ_le_of_lt h)
 rwa [Nat.succ_mul]at this
theorem QE.mono[Syms]{ι κ:Inj}{cs:Array Value}{base size:Nat}{rows:List (List AVal)}(h:QE ι cs base size rows)(hle:ι.le κ):QE κ cs base size rows:=
 fun k row hr=>⟨(h k row hr).1,fun j x hx=>let⟨v,h1,h2,h3⟩:=(h k row hr).2 j x hx;⟨v,h1,h2,h3.mono hle⟩⟩
theorem QE.keep[Syms]{ι:Inj}{cs cs':Array Value}{base size:Nat}{rows:List (List AVal)}(h:QE ι cs base size rows)
 (hk:∀i,base≤i→i<base+rows.length*size→cs'[i]?=cs[i]?):QE ι cs' base size rows:=by
 intro k row hr
 obtain⟨h1,h2⟩:=h k row hr
 refine⟨h1,fun j x hx=>?_⟩
 obtain⟨v,h3,h4⟩:=h2 j x hx
 have hj:j<row.length:=(List.getElem?_eq_some_iff.1 hx).1
 have hkl:k<rows.length:=(List.getElem?_eq_some_iff.1 hr).1
 have:=XJ (s:=size) hkl
 exact⟨v,by rw[hk _ (by omega) (by omega)];exact h3,h4⟩
theorem QE.append[Syms]{ι:Inj}{cs:Array Value}{base size:Nat}{r1 r2:List (List AVal)}(h1:QE ι cs base size r1)(h2:QE ι cs (base+r1.length*size) size r2):
 QE ι cs base size (r1++r2):=by
 intro k row hr
 by_cases hk:k<r1.length
 ·rw[List.getElem?_append_left hk]at hr
  exact h1 k row hr
 ·rw[List.getElem?_append_right (by omega)]at hr
  obtain⟨h3,h4⟩:=h2 _ row hr
  refine⟨h3,fun j x hx=>?_⟩
  obtain⟨v,h5,h6⟩:=h4 j x hx
  refine⟨v,?_,h6⟩
  rw[←h5]
  congr 1
  have:k*size=r1.length*size+(k-r1.length)*size:=by rw[←Nat.add_mul];congr 1;omega
  omega
theorem QE.drop[Syms]{ι:Inj}{cs:Array Value}{base size:Nat}{rows:List (List AVal)}(h:QE ι cs base size rows)(n:Nat):QE ι cs (base+n*size) size (rows.drop n):=by
 intro k row hr
 rw[List.getElem?_drop]at hr
 obtain⟨h1,h2⟩:=h _ row hr
 refine⟨h1,fun j x hx=>?_⟩
 obtain⟨v,h3,h4⟩:=h2 j x hx
 refine⟨v,?_,h4⟩
 rw[←h3,Nat.add_mul,←Nat.add_assoc]
theorem QE.take[Syms]{ι:Inj}{cs:Array Value}{base size:Nat}{rows:List (List AVal)}(h:QE ι cs base size rows)(n:Nat):QE ι cs base size (rows.take n):=by
 intro k row hr
 by_cases hk:k<n
 ·rw[List.getElem?_take_of_lt hk]at hr
  exact h k row hr
 ·rw[List.getElem?_eq_none (by simp;omega)]at hr
  cases hr
theorem Vc[Syms]{ι:Inj}{Pr:Nat→Value→Prop}:∀(xs:List AVal) (o:Nat),(∀j x,xs[j]?=some x→ ∃v,Pr (o+j) v∧RelV ι x v)→ ∃us,Qs ι xs us∧ ∀j u,us[j]?=some u→Pr (o+j) u
 |[],o,_=>⟨[],.nil ι,by simp⟩
 |x::xs,o,h=>by
  obtain⟨v,h1,h2⟩:=h 0 x rfl
  obtain⟨us,h3,h4⟩:=Vc xs (o+1) (fun j y hy=>by
   have:=h (j+1) y (by simpa using hy)
   rwa [show o+(j+1)=o+1+j by omega]at this)
  refine⟨v::us,.cons h2 h3,fun j u hu=>?_⟩
  cases j with
  |zero=>simp at hu;subst hu;exact h1
  |succ j=>
   simp at hu
   rw[show o+(j+1)=o+1+j by omega]
   exact h4 j u hu
theorem QE.flat[Syms]{ι:Inj}{cs:Array Value}{size:Nat}:∀{rows:List (List AVal)} {base:Nat},QE ι cs base size rows→
 ∃us,Qs ι rows.flatten us∧us.length=rows.length*size∧ ∀i u,us[i]?=some u→cs[base+i]?=some u∧u.oneCell'=true
 |[],base,_=>⟨[],.nil ι,by simp,by simp⟩
 |row::rows,base,h=>by
  obtain⟨h1,h2⟩:=h 0 row rfl
  obtain⟨us,h3,h4⟩:=Vc (ι:=ι) (Pr:=fun j v=>cs[base+j]?=some v∧v.oneCell'=true) row 0 (fun j x hx=>by
   obtain⟨v,h5,h6,h7⟩:=h2 j x hx
   exact⟨v,⟨by rw[←h5];congr 1;omega,h6⟩,h7⟩)
  have hd:=QE.drop h 1
  simp only[Nat.one_mul,List.drop_one,List.tail_cons]at hd
  obtain⟨vs,h5,h6,h7⟩:=QE.flat hd
  have hus:us.length=size:=by rw[←h3.1,h1]
  refine⟨us++vs,by simpa using h3.append h5,by simp[hus,h6,Nat.add_mul,Nat.add_comm],fun i u hu=>?_⟩
  by_cases hi:i<us.length
  ·rw[List.getElem?_append_left hi]at hu
   have:=h4 i u hu
   simpa using this
  ·rw[List.getElem?_append_right (by omega)]at hu
   have:=h7 _ u hu
   rw[hus]at this
   rwa [show base+size+(i-size)=base+i by omega]at this
theorem QE.of_flat[Syms]{ι:Inj}{cs:Array Value}{size:Nat}:∀{rows:List (List AVal)} {base:Nat} {us:List Value},(∀r∈rows,r.length=size)→Qs ι rows.flatten us→
 (∀i u,us[i]?=some u→cs[base+i]?=some u∧u.oneCell'=true)→QE ι cs base size rows
 |[],base,us,_,_,_=>by intro k row h;simp at h
 |row::rows,base,us,hl,hr,hc=>by
  have hrow:row.length=size:=hl row (by simp)
  have h1:Qs ι row (us.take size):=by
   have:=hr.take size
   simp only[List.flatten_cons]at this
   rwa [List.take_append_of_le_length (by omega),List.take_of_length_le (by omega)]at this
  have h2:Qs ι rows.flatten (us.drop size):=by
   have:=hr.drop size
   simp only[List.flatten_cons]at this
   rwa [List.drop_append_of_le_length (by omega),List.drop_of_length_le (by omega),List.nil_append]at this
  have ih:=QE.of_flat (base:=base+size) (fun r hr'=>hl r (by simp[hr'])) h2 (fun i u hu=>by
   rw[List.getElem?_drop]at hu
   have:=hc _ u hu
   rwa [←Nat.add_assoc]at this)
  intro k r hk
  cases k with
  |zero=>
   simp at hk
   subst hk
   refine⟨hrow,fun j x hx=>?_⟩
   obtain⟨v,hv,hx'⟩:=h1.get hx
   have hj:j<row.length:=(List.getElem?_eq_some_iff.1 hx).1
   rw[List.getElem?_take_of_lt (by omega)]at hv
   have:=hc _ v hv
   exact⟨v,by simpa using this.1,this.2,hx'⟩
  |succ k=>
   simp at hk
   obtain⟨h3,h4⟩:=ih k r hk
   refine⟨h3,fun j x hx=>?_⟩
   obtain⟨v,h5,h6⟩:=h4 j x hx
   exact⟨v,by rw[←h5];congr 1;rw[Nat.add_mul];omega,h6⟩
theorem Zf.rows[Syms]{ι:Inj}{w:World}{L:Loc}{rows:List (List AVal)}{ro:Bool}(h:Zf ι w L (.cells rows ro)):
 ∃(cs:Array Value) (e:TypeId) (fz:Nat×Nat),w.heap[L.g]?=some (.cells cs e fz)∧cs.size=L.phys∧L.base+rows.length*L.size≤L.phys∧QE ι cs L.base L.size rows∧
  (ro=false→ ∀o,o<L.phys→w.frozen? ⟨L.g,o,none⟩=false):=
 let⟨cs,e,fz,h1,h2,h3,h4,h5,_⟩:=h
 ⟨cs,e,fz,h1,h2,h3,h4,h5⟩
theorem Zf.ty[Syms]{ι:Inj}{w:World}{L:Loc}{rows:List (List AVal)}{ro:Bool}(h:Zf ι w L (.cells rows ro)){cs:Array Value}{e:TypeId}{fz:Nat×Nat}(hg:w.heap[L.g]?=some (.cells cs e fz)):
 (∀t,L.ty=some t→t=e)∧fz.1≤fz.2:=by
 obtain⟨cs',e',fz',h1,_,_,_,_,h6⟩:=h
 rw[h1]at hg
 cases hg
 exact h6
theorem Zf.mk[Syms]{ι:Inj}{w:World}{L:Loc}{rows:List (List AVal)}{ro:Bool}{cs:Array Value}{e:TypeId}{fz:Nat×Nat}(h1:w.heap[L.g]?=some (.cells cs e fz))(h2:cs.size=L.phys)
 (h3:L.base+rows.length*L.size≤L.phys) (h4:QE ι cs L.base L.size rows) (h5:ro=false→ ∀o,o<L.phys→w.frozen? ⟨L.g,o,none⟩=false) (h6:(∀t,L.ty=some t→t=e)∧fz.1≤fz.2):Zf ι w L (.cells rows ro):=⟨cs,e,fz,h1,h2,h3,h4,h5,h6⟩
theorem Ze(g o n:Nat):(⟨g,o,none⟩:Addr).add n=⟨g,o+n,none⟩:=by unfold Addr.add;split<;>simp_all
theorem Xi[Syms]{P:Program}(g o:Nat)(t:TypeId)(fz:Nat×Nat):∀(vs:List Value) (i:Nat) (cur:Array Value) (w:World),w.heap[g]?=some (.cells cur t fz)→
 (∀k,k<cur.size→w.frozen? ⟨g,k,none⟩=false)→o+i+vs.length≤cur.size→(∀v∈vs,v.oneCell'=true)→
 (storeCells ⟨g,o,none⟩ vs i).run P w= .ok () (w.setRow g (cur.toList.take (o+i)++vs++cur.toList.drop (o+i+vs.length)).toArray)
 |[],i,cur,w,hg,_,_,_=>by
  simp only[storeCells,List.append_nil,List.length_nil,Nat.add_zero,List.take_append_drop,Array.toArray_toList]
  rw[setRow_self w g cur t fz hg]
  rfl
 |v::rest,i,cur,w,hg,hf,hl,h1=>by
  have hi:o+i<cur.size:=by simp at hl;omega
  have hadd:(⟨g,o,none⟩:Addr).add i=⟨g,o+i,none⟩:=Ze g o i
  have hcell:w.cell? ⟨g,o+i,none⟩=some cur[o+i]:=by simp[World.cell?,hg,hi]
  have hfro:w.frozen? ⟨g,o+i,none⟩=false:=hf _ hi
  have hst:(store ((⟨g,o,none⟩:Addr).add i) v).run P w= .ok () (w.setRow g (cur.setIfInBounds (o+i) v)):=by
   rw[hadd,run_store P w _ v _ (h1 v (by simp)),hcell]
   simp[hfro,setCell_eq_setRow w g (o+i) cur t fz v hg]
  have hg':=setRow_heap w g cur (cur.setIfInBounds (o+i) v) t fz hg
  have ih:=Xi (P:=P) g o t fz rest (i+1) (cur.setIfInBounds (o+i) v) (w.setRow g (cur.setIfInBounds (o+i) v)) hg'
   (fun k hk=>by
     have:=hf k (by simpa using hk)
     simp only[World.frozen?,hg]at this
     simp only[World.frozen?,hg']
     exact this) (by simp at hl ⊢;omega) (fun x hx=>h1 x (by simp[hx]))
  simp only[storeCells,Sem.run_bind,hst,Result.andThen_ok,ih,setRow_setRow]
  congr 3
  have e:=list_seg_step cur.toList (o+i) v rest (by simp at hl ⊢;omega)
  simpa[Array.toList_setIfInBounds,Nat.add_assoc]using e
theorem DE(l:List Value)(p:Nat)(vs:List Value)(h:p+vs.length≤l.length)(q:Nat):
 (l.take p++vs++l.drop (p+vs.length))[q]?=if p≤q∧q<p+vs.length then vs[q-p]? else l[q]?:=by
 have hp:(l.take p).length=p:=by simp;omega
 rw[List.append_assoc,List.getElem?_append]
 by_cases h1:q<p
 ·rw[if_pos (by omega),if_neg (by omega),List.getElem?_take_of_lt h1]
 ·rw[if_neg (by omega),hp,List.getElem?_append]
  by_cases h2:q-p<vs.length
  ·rw[if_pos h2,if_pos (by omega)]
  ·rw[if_neg h2,if_neg (by omega),List.getElem?_drop]
   congr 1
   omega
theorem CX(row cs:List AVal)(off:Nat)(h:off+cs.length≤row.length)(q:Nat):
 (Qm row off cs)[q]?=if off≤q∧q<off+cs.length then cs[q-off]? else row[q]?:=by
 unfold Qm
 have hp:(row.take off).length=off:=by simp;omega
 rw[List.append_assoc,List.getElem?_append]
 by_cases h1:q<off
 ·rw[if_pos (by omega),if_neg (by omega),List.getElem?_take_of_lt h1]
 ·rw[if_neg (by omega),hp,List.getElem?_append]
  by_cases h2:q-off<cs.length
  ·rw[if_pos h2,if_pos (by omega)]
  ·rw[if_neg h2,if_neg (by omega),List.getElem?_drop]
   congr 1
   omega
theorem UK(row cs:List AVal)(off:Nat)(h:off+cs.length≤row.length):(Qm row off cs).length=row.length:=by
 simp[Qm];omega
theorem QE.store[Syms]{ι:Inj}{cs:Array Value}{base size:Nat}{rows:List (List AVal)}{k j:Nat}{row xs:List AVal}{us:List Value}(h:QE ι cs base size rows)(hk:rows[k]?=some row)
 (hj:j+xs.length≤row.length) (hus:Qs ι xs us) (hone:∀u∈us,u.oneCell'=true) (hsz:base+rows.length*size≤cs.size):
 QE ι (cs.toList.take (base+k*size+j)++us++cs.toList.drop (base+k*size+j+us.length)).toArray base size (rows.set k (Qm row j xs)):=by
 have hrow:=(h k row hk).1
 have hkl:k<rows.length:=(List.getElem?_eq_some_iff.1 hk).1
 have hks:=XJ (s:=size) hkl
 have hlen:=hus.1
 have hget:=DE cs.toList (base+k*size+j) us (by simp;omega)
 intro k' row' hr'
 rw[List.getElem?_set]at hr'
 by_cases hkk:k=k'
 ·subst hkk
  rw[if_pos rfl,if_pos hkl]at hr'
  cases hr'
  refine⟨by rw[UK _ _ _ hj,hrow],fun q x hx=>?_⟩
  rw[CX _ _ _ hj]at hx
  by_cases hq:j≤q∧q<j+xs.length
  ·rw[if_pos hq]at hx
   obtain⟨v,hv,hxv⟩:=hus.get hx
   refine⟨v,?_,hone v (List.mem_of_getElem? hv),hxv⟩
   rw[List.getElem?_toArray,hget,if_pos (by omega),←hv]
   congr 1
   omega
  ·rw[if_neg hq]at hx
   obtain⟨v,hv,h1⟩:=(h k row hk).2 q x hx
   refine⟨v,?_,h1⟩
   rw[List.getElem?_toArray,hget,if_neg (by omega),Array.getElem?_toList,hv]
 ·rw[if_neg hkk]at hr'
  obtain⟨h1,h2⟩:=h k' row' hr'
  refine⟨h1,fun q x hx=>?_⟩
  obtain⟨v,hv,h3⟩:=h2 q x hx
  refine⟨v,?_,h3⟩
  have hq:q<row'.length:=(List.getElem?_eq_some_iff.1 hx).1
  have hcase:¬(base+k*size+j≤base+k'*size+q∧base+k'*size+q<base+k*size+j+us.length):=by
   rcases Nat.lt_or_gt_of_ne hkk with hlt|hgt
   ·have:=XJ (s:=size) hlt
    omega
   ·have:=XJ (s:=size) hgt
    omega
  rw[List.getElem?_toArray,hget,if_neg hcase,Array.getElem?_toList,hv]
theorem D0:∀(vs:List Value) (o i:Nat) (cells:Array Value),o+i+vs.length≤cells.size→
 (vs.zipIdx i).foldl (fun cs (x:Value×Nat)=>cs.setIfInBounds (o+x.2) x.1) cells=(cells.toList.take (o+i)++vs++cells.toList.drop (o+i+vs.length)).toArray
 |[],o,i,cells,_=>by simp
 |v::vs,o,i,cells,h=>by
  simp only[List.zipIdx_cons,List.foldl_cons]
  have ih:=D0 vs o (i+1) (cells.setIfInBounds (o+i) v) (by simp at h ⊢;omega)
  rw[ih]
  have e:=list_seg_step cells.toList (o+i) v vs (by simp at h ⊢;omega)
  simpa[Array.toList_setIfInBounds,Nat.add_assoc]using e
theorem Ub[Syms]{ι:Inj}(place:Nat→Option (Nat×Nat)):∀(parts:List (Nat×AVal)) (vals:List (Nat×Value)) (row row':List AVal) (us:List Value),
 parts.length=vals.length→(∀(i:Nat) (p:Nat×AVal) (q:Nat×Value),parts[i]?=some p→vals[i]?=some q→p.1=q.1∧RelV ι p.2 q.2)→
 Qs ι row us→(∀u∈us,u.oneCell'=true)→WE place row parts=some row'→ ∃us',Instr.fill place us.toArray vals=some us'.toArray∧Qs ι row' us'∧ ∀u∈us',u.oneCell'=true
 |[],[],row,row',us,_,_,hr,ho,h=>by
  simp only[WE,Option.some.injEq]at h
  subst h
  exact⟨us,rfl,hr,ho⟩
 |(i,x)::parts,(i',v)::vals,row,row',us,hl,hp,hr,ho,h=>by
  obtain⟨h1,h2⟩:=hp 0 _ _ rfl rfl
  simp only at h1 h2
  subst h1
  simp only[WE]at h
  cases hpl:place i with
  |none=>rw[hpl]at h;cases h
  |some os=>
   obtain⟨off,size⟩:=os
   rw[hpl]at h
   simp only at h
   split at h
   ·rename_i hc
    obtain⟨hc1,hc2,hc3⟩:=hc
    obtain⟨hc4,hc5⟩:=h2.cells (by simpa[Qw]using hc3)
    have hvs:v.cells.size=size:=by have:=hc4.1;simp at this;omega
    have hus:us.length=row.length:=hr.1.symm
    have hseg:=D0 v.cells.toList off 0 us.toArray (by simp[hus,hvs];omega)
    have hrel:Qs ι (Qm row off x.cells) (us.take off++v.cells.toList++us.drop (off+v.cells.toList.length)):=by
     have:=((hr.take off).append hc4).append (hr.drop (off+x.cells.length))
     rw[show v.cells.toList.length=x.cells.length from hc4.1.symm]
     exact this
    obtain⟨us',h3,h4,h5⟩:=Ub place parts vals _ _ _ (by simpa using hl) (fun k p q hp1 hq1=>hp (k+1) p q (by simpa using hp1) (by simpa using hq1)) hrel (fun u hu=>by
     simp only[List.mem_append]at hu
     rcases hu with(hu|hu)|hu
     ·exact ho u (List.mem_of_mem_take hu)
     ·exact hc5 u hu
     ·exact ho u (List.mem_of_mem_drop hu)) h
    refine⟨us',?_,h4,h5⟩
    rw[←h3]
    simp only[Instr.fill,hpl]
    rw[if_neg (by simp[hvs,hus];omega)]
    congr 1
    have hz:v.cells.zipIdx=(v.cells.toList.zipIdx 0).toArray:=by
     apply Array.ext'
     rw[Array.toList_zipIdx]
    rw[hz]
    simpa using hseg
   ·cases h
 |[],_::_,_,_,_,hl,_,_,_,_=>by simp at hl
 |_::_,[],_,_,_,hl,_,_,_,_=>by simp at hl
theorem KV(size:Nat):∀(n:Nat) (l:List AVal),l.length=n*size→(Gy size n l).flatten=l∧(∀r∈Gy size n l,r.length=size)∧(Gy size n l).length=n
 |0,l,h=>by
  have:l=[]:=List.eq_nil_of_length_eq_zero (by simpa using h)
  subst this
  simp[Gy]
 |n+1,l,h=>by
  have h1:size≤l.length:=by rw[h,Nat.add_mul];omega
  obtain⟨i1,i2,i3⟩:=KV size n (l.drop size) (by simp[h,Nat.add_mul])
  refine⟨by simp[Gy,i1],fun r hr=>?_,by simp[Gy,i3]⟩
  simp only[Gy,List.mem_cons]at hr
  rcases hr with rfl|hr
  ·simp;omega
  ·exact i2 r hr
theorem J8[Syms](place:Nat→Option (Nat×Nat)):∀(parts:List (Nat×AVal)) (row row':List AVal),WE place row parts=some row'→row'.length=row.length
 |[],row,row',h=>by simp only[WE,Option.some.injEq]at h;subst h;rfl
 |(i,x)::parts,row,row',h=>by
  simp only[WE]at h
  cases hpl:place i with
  |none=>rw[hpl]at h;cases h
  |some os=>
   obtain⟨off,size⟩:=os
   rw[hpl]at h
   simp only at h
   split at h
   ·rename_i hc
    rw[J8 place parts _ _ h,UK _ _ _ (by omega)]
   ·cases h
end Go.Av
end
end
section
set_option linter.unusedVariables false
set_option linter.unusedSimpArgs false
noncomputable section
namespace Go.Av
theorem Nz(k:IntKind)(x:Int)(h:k.min≤x∧x≤k.max):k.wrap x=x:=by
 cases k<;>simp[IntKind.min,IntKind.max,IntKind.signed,IntKind.bits]at h
 ·exact IntWalk.i8_in x (by omega)
 ·exact IntWalk.i16_in x (by omega)
 ·exact IntWalk.i32_in x (by omega)
 ·exact IntWalk.i64_in x (by omega)
 ·exact IntWalk.u8_in x (by omega)
 ·exact IntWalk.u16_in x (by omega)
 ·exact IntWalk.u32_in x (by omega)
 ·exact IntWalk.u64_in x (by omega)
theorem GM[Syms](k:IntKind)(x:Int):wr k x=k.wrap x:=by
 unfold wr
 split
 ·rename_i h;exact(Nz k x h).symm
 ·rfl
section
variable {P:Program} {tt:TT} (htt:TT.ok P tt) {ι:Inj} {w:World}
theorem Qk[Syms]{t:TypeId}{ty:Ty}(htt:TT.ok P tt)(h:tt t=some ty):∃d i,P.underlying t=some d∧P.info? t=some i∧ty.kd.fits d=true∧i.size=ty.size∧i.bytes=ty.bytes∧
 ((∃ z, i.zero = some z ∧ W0 ty.zero z = true) ∨ ty.zero = .any) ∧ ∀ fs, d = .struct fs → P.stoodInHeld t = false ∧ ∀ f ∈ fs.toList, f.name ≠ "_" := ND (htt _ _ h)
theorem CP[Syms]{op:BinOp}{t:TypeId}{k k':IntKind}{a b:Int}{z:AVal}(h:Yn tt op t (.int k a) (.int k' b)=some z):
 ∃r,(binOp op t (.int k a) (.int k' b)).run P w= .ok r w∧RelV ι z r:=by
 by_cases hsh:op= .shl∨op= .shr
 ·simp only[Yn]at h
  rcases hsh with rfl|rfl<;>simp only at h
  ·split at h
   ·rename_i h0
    cases h
    exact⟨.int k (k.wrap (a*2^min b.toNat k.bits)),by simp[binOp,Op.shift,Int.not_lt.2 h0],by rw[GM];exact .int _ _⟩
   ·cases h
  ·split at h
   ·rename_i h0
    cases h
    exact⟨.int k (a.fdiv (2^min b.toNat k.bits)),by simp[binOp,Op.shift,Int.not_lt.2 h0],.int _ _⟩
   ·cases h
 have hk:k=k':=by
  rcases Decidable.em (k=k')with h1|h1
  ·exact h1
  ·simp only[Yn]at h
   cases op<;>simp_all
 subst hk
 simp only[Yn,beq_self_eq_true,if_true]at h
 cases op<;>simp only at h
 case shl=>simp at hsh
 case shr=>simp at hsh
 case add=>cases h;exact⟨.int k (k.wrap (a+b)),by simp[binOp,Op.intArith],by rw[GM];exact .int _ _⟩
 case sub=>cases h;exact⟨.int k (k.wrap (a-b)),by simp[binOp,Op.intArith],by rw[GM];exact .int _ _⟩
 case mul=>cases h;exact⟨.int k (k.wrap (a*b)),by simp[binOp,Op.intArith],by rw[GM];exact .int _ _⟩
 case quo=>
  split at h
  ·cases h
  ·rename_i hb;cases h;exact⟨.int k (k.wrap (a.tdiv b)),by simp[binOp,Op.intDiv,hb],by rw[GM];exact .int _ _⟩
 case rem=>
  split at h
  ·cases h
  ·rename_i hb;cases h;exact⟨.int k (a.tmod b),by simp[binOp,Op.intDiv,hb],.int _ _⟩
 case eql=>cases h;exact⟨.bool (a == b),by simp[binOp,Op.intCmp],by rw[show(decide (a=b))=(a == b) from by simp[BEq.beq]];exact .bool _⟩
 case neq=>cases h;exact⟨.bool (a != b),by simp[binOp,Op.intCmp],by rw[show(decide (a≠b))=(a != b) from by simp[bne,BEq.beq]];exact .bool _⟩
 case lss=>cases h;exact⟨.bool (decide (a<b)),by simp[binOp,Op.intCmp],.bool _⟩
 case leq=>cases h;exact⟨.bool (decide (a≤b)),by simp[binOp,Op.intCmp],.bool _⟩
 case gtr=>cases h;exact⟨.bool (decide (b<a)),by simp[binOp,Op.intCmp],.bool _⟩
 case geq=>cases h;exact⟨.bool (decide (b≤a)),by simp[binOp,Op.intCmp],.bool _⟩
 case and=>simp only[Fe]at h;cases h;exact⟨.int k _,by simp only[binOp,ne_eq,not_true_eq_false,if_false,Op.intBits,Sem.run_pure],.int _ _⟩
 case or=>simp only[Fe]at h;cases h;exact⟨.int k _,by simp only[binOp,ne_eq,not_true_eq_false,if_false,Op.intBits,Sem.run_pure],.int _ _⟩
 case xor=>simp only[Fe]at h;cases h;exact⟨.int k _,by simp only[binOp,ne_eq,not_true_eq_false,if_false,Op.intBits,Sem.run_pure],.int _ _⟩
 case andNot=>simp only[Fe]at h;cases h;exact⟨.int k _,by simp only[binOp,ne_eq,not_true_eq_false,if_false,Op.intBits,Sem.run_pure],.int _ _⟩
end
end Go.Av
end
end
section
set_option linter.unusedVariables false
set_option linter.unusedSimpArgs false
noncomputable section
namespace Go.Av
theorem Xf(l:List UInt8):(ByteArray.mk ⟨l⟩).toList=l:=by rw[ByteArray.toList_eq]
theorem F2(l:List UInt8)(a b:Nat):(ByteArray.mk ⟨l⟩).extract a b=⟨⟨(l.drop a).take (b-a)⟩⟩:=by
 apply ByteArray.ext
 simp
theorem IK(l k:List UInt8)  :(ByteArray.mk ⟨l⟩)++(ByteArray.mk ⟨k⟩)=⟨⟨l++k⟩⟩:=by
 apply ByteArray.ext
 simp
theorem J2(l:List UInt8):(ByteArray.mk ⟨l⟩).size=l.length:=rfl
theorem PI(l:List UInt8)(i:Nat):(ByteArray.mk ⟨l⟩)[i]?=l[i]?:=by
 by_cases h:i<l.length
 ·rw[List.getElem?_eq_getElem h,getElem?_pos (c:=ByteArray.mk ⟨l⟩) (i:=i) (h:=h)]
  rfl
 ·rw[List.getElem?_eq_none (by omega),getElem?_neg (c:=ByteArray.mk ⟨l⟩) (i:=i) (h:=h)]
section
variable {P:Program} {tt:TT} {ι:Inj} {w:World}
theorem Nr[Syms]{op:BinOp}{t:TypeId}{a b:List UInt8}{z:AVal}(h:Yn tt op t (.str a) (.str b)=some z):
 ∃r,(binOp op t (.string ⟨⟨a⟩⟩) (.string ⟨⟨b⟩⟩)).run P w= .ok r w∧RelV ι z r:=by
 have he:(a == b)=eqb a b:=by
  rw[MP,Bool.eq_iff_iff]
  simp
 simp only[Yn]at h
 cases op<;>simp only at h
 case add=>
  split at h
  ·rename_i hc
   cases h
   refine⟨.string ⟨⟨a++b⟩⟩,?_,.str _⟩
   have hm:¬((a.length:Int)+(b.length:Int)>IntKind.i64.max):=by
    simp[IntKind.max,IntKind.signed,IntKind.bits];omega
   simp only[binOp,Op.stringOp,J2,IK,Int.natCast_add,if_neg hm,Sem.run_pure]
  ·cases h
 case eql=>cases h;exact⟨.bool (a == b),by simp[binOp,Op.stringOp,Xf],by rw[he];exact .bool _⟩
 case neq=>cases h;exact⟨.bool (!(a == b)),by simp only[binOp,Op.stringOp,Xf,Sem.run_pure],by rw[he];exact .bool _⟩
 case lss=>cases h;exact⟨.bool (Op.bytesLess a b),by simp[binOp,Op.stringOp,Xf],.bool _⟩
 case leq=>cases h;exact⟨.bool (Op.bytesLess a b||(a == b)),by simp only[binOp,Op.stringOp,Xf,Sem.run_pure],by rw[he];exact .bool _⟩
 case gtr=>cases h;exact⟨.bool (!(Op.bytesLess a b||(a == b))),by simp only[binOp,Op.stringOp,Xf,Sem.run_pure],by rw[he];exact .bool _⟩
 case geq=>cases h;exact⟨.bool (!Op.bytesLess a b),by simp only[binOp,Op.stringOp,Xf,Sem.run_pure],.bool _⟩
 all_goals cases h
theorem KQ{t:TypeId}{v u:Value}{b:Bool}(h:∀d,(Op.equalIn (d+1) t v u).run P w= .ok b w):(Op.equal t v u).run P w= .ok b w:=h 9999
theorem Q04[Syms](htt:TT.ok P tt){op:BinOp}{t:TypeId}{a b:Bool}{z:AVal}(h:Yn tt op t (.bool a) (.bool b)=some z):
 ∃r,(binOp op t (.bool a) (.bool b)).run P w= .ok r w∧RelV ι z r:=by
 simp only[Yn]at h
 split at h
 ·rename_i ty hty
  obtain⟨d,i,hd,_,hk,_⟩:=Qk htt hty
  cases d<;>simp[Kd.fits]at hk
  cases h
  have hE:=KQ (P:=P) (w:=w) (t:=t) (v:=.bool a) (u:=.bool b) (b:=a == b) (fun d=>by simp[Op.equalIn,run_underlying hd])
  exact⟨.bool (a == b),by simp only[binOp,Sem.run_bind,hE,Result.andThen_ok,Sem.run_pure],by rw[show decide (a=b)=(a == b) from by cases a<;>cases b<;>rfl];exact .bool _⟩
 ·rename_i ty hty
  obtain⟨d,i,hd,_,hk,_⟩:=Qk htt hty
  cases d<;>simp[Kd.fits]at hk
  cases h
  have hE:=KQ (P:=P) (w:=w) (t:=t) (v:=.bool a) (u:=.bool b) (b:=a == b) (fun d=>by simp[Op.equalIn,run_underlying hd])
  exact⟨.bool (!(a == b)),by simp only[binOp,Sem.run_bind,hE,Result.andThen_ok,Sem.run_pure],by rw[show decide (a≠b)=(!(a == b)) from by cases a<;>cases b<;>rfl];exact .bool _⟩
 ·cases h
theorem F6[Syms](htt:TT.ok P tt){t:TypeId}{x y:AVal}{v u:Value}{b:Bool}(hx:RelV ι x v)(hy:RelV ι y u)(h:IQ tt t x y=some b):
 (binOp .eql t v u).run P w= .ok (.bool b) w∧(binOp .neq t v u).run P w= .ok (.bool (!b)) w:=by
 unfold IQ at h
 split at h
 all_goals first|(cases h;done)|skip
 all_goals
  split at h
  all_goals first|(cases h;done)|skip
  cases h
  rename_i ty hty
  obtain⟨d,i,hd,_,hk,_⟩:=Qk htt hty
  cases d<;>simp[Kd.fits]at hk
  cases hx
  cases hy
  refine⟨?_,?_⟩
  all_goals simp only[binOp,Sem.run_bind]
  all_goals rw[KQ (fun d=>by simp only[Op.equalIn,Sem.run_bind,run_underlying hd,Result.andThen_ok,Sem.run_pure];rfl)]
  all_goals rfl
theorem KB{t:TypeId}{d:TypeDesc}(h:P.underlying t=some d)(hd:∀fs,d≠ .struct fs)(he:∀n e,d≠ .array n e)(cs:Array Value)(off:Nat){v:Value}(hv:cs[off]?=some v):
 (part t cs off).run P w= .ok v w:=by
 have:(isAgg t).run P w= .ok false w:=by
  simp only[isAgg,Sem.run_bind,run_underlying h,Result.andThen_ok]
  cases d<;>first|rfl|(exact absurd rfl (hd _))|(exact absurd rfl (he _ _))
 simp[part,this,hv]
theorem Qg{ty:Ty}{d:TypeDesc}(h:ty.kd.fits d=true):(∀k,ty.kd= .int k→d= .int k)∧(ty.kd= .bool→d= .bool)∧(ty.kd= .string→d= .string)∧(∀e,ty.kd= .slice e→d= .slice e)∧
 (∀n e,ty.kd= .array n e→d= .array n e)∧(ty.kd= .ptr→ ∃e,d= .pointer e)∧ ∀fs,ty.kd= .struct fs→ ∃gs,d= .struct gs∧fs=gs.toList.map fun f=>(f.offset,f.type):=by
 cases hk:ty.kd<;>rw[hk]at h<;>cases d<;>simp_all [Kd.fits,Nat.beq_eq]
theorem YX [Syms] (htt : TT.ok P tt) (n : Nat) : ∀ (fs : List Field) (k : Nat) (xs ys : List AVal) (vs us : Array Value) (b : Bool), (∀ f ∈ fs, f.name ≠ "_") →
 Qs ι xs (vs.toList.drop k)→Qs ι ys (us.toList.drop k)→QB tt k (fs.map fun f=>(f.offset,f.type)) xs ys=some b→(Op.eqFields (n+1) vs us fs).run P w= .ok b w
 |[],k,[],[],vs,us,b,_,_,_,h=>by simp[QB]at h;subst h;simp[Op.eqFields]
 |f::fs,k,x::xs,y::ys,vs,us,b,hn,hx,hy,h=>by
  simp only[List.map_cons,QB]at h
  split at h
  rotate_left
  ·cases h
  rename_i hoff
  have hoff:=Nat.eq_of_beq_eq_true hoff
  obtain⟨v,vs',hv1,hv2,hv3⟩:=hx.uncons
  obtain⟨u,us',hu1,hu2,hu3⟩:=hy.uncons
  have e1:vs[f.offset]?=some v:=by
   have:(vs.toList.drop k)[0]?=some v:=by rw[hv1];rfl
   rw[List.getElem?_drop]at this
   rw[hoff,←Array.getElem?_toList];simpa using this
  have e2:us[f.offset]?=some u:=by
   have:(us.toList.drop k)[0]?=some u:=by rw[hu1];rfl
   rw[List.getElem?_drop]at this
   rw[hoff,←Array.getElem?_toList];simpa using this
  have hx':Qs ι xs (vs.toList.drop (k+1)):=by
   have:vs.toList.drop (k+1)=vs':=by rw[←List.drop_drop,hv1];rfl
   rw[this];exact hv3
  have hy':Qs ι ys (us.toList.drop (k+1)):=by
   have:us.toList.drop (k+1)=us':=by rw[←List.drop_drop,hu1];rfl
   rw[this];exact hu3
  have hname:=hn f (by simp)
  have fin:∀(c b':Bool) (d:TypeDesc),P.underlying f.type=some d→(∀fs,d≠ .struct fs)→(∀n e,d≠ .array n e)→(Op.equalIn (n+1) f.type v u).run P w= .ok c w→
   QB tt (k+1) (fs.map fun f=>(f.offset,f.type)) xs ys=some b'→b=(c&&b')→(Op.eqFields (n+1) vs us (f::fs)).run P w= .ok b w:=by
   intro c b' d hd h1 h2 hE hr hb
   have ih:=YX htt n fs (k+1) xs ys vs us b' (fun g hg=>hn g (by simp[hg])) hx' hy' hr
   simp only[Op.eqFields,hname,ne_eq,not_false_eq_true,if_true,Sem.run_bind,KB hd h1 h2 vs f.offset e1,KB hd h1 h2 us f.offset e2,hE,Result.andThen_ok]
   subst hb
   cases c
   ·simp
   ·simpa using ih
  split at h
  ·rename_i ty hty
   obtain⟨d,i,hd,_,hk,_⟩:=Qk htt hty
   obtain rfl:=(Qg hk).1 _ rfl
   split at h
   rotate_left
   ·cases h
   rename_i hq
   obtain rfl:=by simpa using hq
   rw[Option.map_eq_some_iff]at h
   obtain⟨b',hb1,hb2⟩:=h
   cases hv2;cases hu2
   exact fin _ b' _ hd (by simp) (by simp) (run_equalIn_int w n _ _ _ _ _ hd) hb1 (by rw[←hb2];congr 1)
  ·rename_i ty hty
   obtain⟨d,i,hd,_,hk,_⟩:=Qk htt hty
   obtain rfl:=(Qg hk).2.1 rfl
   rw[Option.map_eq_some_iff]at h
   obtain⟨b',hb1,hb2⟩:=h
   cases hv2;cases hu2
   refine fin _ b' _ hd (by simp) (by simp) (run_equalIn_bool' w n _ _ _ hd) hb1 ?_
   rw[←hb2]
   congr 1
  ·rename_i ty hty
   obtain⟨d,i,hd,_,hk,_⟩:=Qk htt hty
   obtain rfl:=(Qg hk).2.2.1 rfl
   rw[Option.map_eq_some_iff]at h
   obtain⟨b',hb1,hb2⟩:=h
   cases hv2;cases hu2
   refine fin _ b' _ hd (by simp) (by simp) (run_equalIn_string w n _ _ _ hd) hb1 ?_
   rw[←hb2,Xf,Xf,MP]
   congr 1
   rw[Bool.eq_iff_iff];simp
  ·cases h
 |[],k,_::_,_,_,_,_,_,_,_,h=>by simp[QB]at h
 |[],k,[],_::_,_,_,_,_,_,_,h=>by simp[QB]at h
 |_::_,k,[],_,_,_,_,_,_,_,h=>by simp[QB]at h
 |_::_,k,_::_,[],_,_,_,_,_,_,h=>by simp[QB]at h
theorem XF[Syms](htt:TT.ok P tt):∀(fs:List Field) (k:Nat) (xs ys:List AVal) (b:Bool) (n:Nat),QB tt k (fs.map fun f=>(f.offset,f.type)) xs ys=some b→ ∀f∈fs,P.eqGuardType (n+1) f.type=false
 |[],_,_,_,_,_,_=>by simp
 |f::fs,k,x::xs,y::ys,b,n,h=>by
  simp only[List.map_cons,QB]at h
  split at h
  rotate_left
  ·cases h
  have rest:∀c,(QB tt (k+1) (fs.map fun f=>(f.offset,f.type)) xs ys).map c=some b→ ∀g∈fs,P.eqGuardType (n+1) g.type=false:=by
   intro c hc
   rw[Option.map_eq_some_iff]at hc
   obtain⟨b',hb,_⟩:=hc
   exact XF htt fs (k+1) xs ys b' n hb
  have one:∀ty,tt f.type=some ty→(ty.kd= .bool∨ty.kd= .string∨ ∃q,ty.kd= .int q)→P.eqGuardType (n+1) f.type=false:=by
   intro ty hty hk
   obtain⟨d,i,hd,_,hf,_⟩:=Qk htt hty
   rcases hk with hk|hk|⟨q,hk⟩
   ·obtain rfl:=(Qg hf).2.1 hk;simp[Program.eqGuardType,hd]
   ·obtain rfl:=(Qg hf).2.2.1 hk;simp[Program.eqGuardType,hd]
   ·obtain rfl:=(Qg hf).1 q hk;simp[Program.eqGuardType,hd]
  intro g hg
  split at h
  ·rename_i ty hty
   split at h
   rotate_left
   ·cases h
   rcases List.mem_cons.1 hg with rfl|hg
   ·exact one _ hty (.inr (.inr ⟨_,rfl⟩))
   ·exact rest _ h g hg
  ·rename_i ty hty
   rcases List.mem_cons.1 hg with rfl|hg
   ·exact one _ hty (.inl rfl)
   ·exact rest _ h g hg
  ·rename_i ty hty
   rcases List.mem_cons.1 hg with rfl|hg
   ·exact one _ hty (.inr (.inl rfl))
   ·exact rest _ h g hg
  ·cases h
 |_::_,k,[],_,_,_,h=>by simp[QB]at h
 |_::_,k,_::_,[],_,_,h=>by simp[QB]at h
theorem UE{a b:Option Bool}{c:Bool}(h:OA a b=some c):∃x y,a=some x∧b=some y∧c=(x&&y):=by
 unfold OA at h
 split at h
 ·rename_i x y;cases h;exact⟨x,y,rfl,rfl,rfl⟩
 ·cases h
theorem UP(d:Nat)(vs us:Array Value)(f:Field)(fs:List Field)(c b:Bool)(h1:(Op.eqFields d vs us [f]).run P w= .ok c w)(h2:(Op.eqFields d vs us fs).run P w= .ok b w):(Op.eqFields d vs us (f::fs)).run P w= .ok (c&&b) w:=by
 simp only[Op.eqFields,Sem.run_bind,Sem.run_ite]at h1 ⊢
 split
 ·rename_i hn
  rw[if_pos hn]at h1
  generalize(part f.type vs f.offset).run P w=r1 at h1 ⊢
  cases r1 with
  |ok v w1=>
   simp only[Result.andThen_ok]at h1 ⊢
   generalize(part f.type us f.offset).run P w1=r2 at h1 ⊢
   cases r2 with
   |ok u w2=>
    simp only[Result.andThen_ok]at h1 ⊢
    generalize(Op.equalIn d f.type v u).run P w2=r3 at h1 ⊢
    cases r3 with
    |ok e w3=>
     simp only[Result.andThen_ok]at h1 ⊢
     cases e
     ·simp at h1 ⊢
      obtain⟨rfl,rfl⟩:=h1
      simp
     ·simp at h1 ⊢
      obtain⟨rfl,rfl⟩:=h1
      simpa using h2
    |_=>simp at h1
   |_=>simp at h1
  |_=>simp at h1
 ·rename_i hn
  rw[if_neg hn]at h1
  simp at h1
  subst h1
  simpa using h2
theorem Ig[Syms](htt:TT.ok P tt)(n:Nat){k off:Nat}{t:TypeId}{x y:AVal}{v u:Value}{c:Bool}(hx:RelV ι x v)(hy:RelV ι y u)(h:QB tt k [(off,t)] [x] [y]=some c):
 ∃d,P.underlying t=some d∧(∀fs,d≠ .struct fs)∧(∀n e,d≠ .array n e)∧(Op.equalIn (n+1) t v u).run P w= .ok c w:=by
 simp only[QB]at h
 split at h
 rotate_left
 ·cases h
 split at h
 ·rename_i ty hty
  obtain⟨d,i,hd,_,hk,_⟩:=Qk htt hty
  obtain rfl:=(Qg hk).1 _ rfl
  split at h
  rotate_left
  ·cases h
  rename_i hq
  obtain rfl:=by simpa using hq
  cases hx;cases hy
  simp at h
  refine⟨_,hd,by simp,by simp,?_⟩
  rw[←h]
  exact run_equalIn_int w n _ _ _ _ _ hd
 ·rename_i ty hty
  obtain⟨d,i,hd,_,hk,_⟩:=Qk htt hty
  obtain rfl:=(Qg hk).2.1 rfl
  cases hx;cases hy
  simp at h
  refine⟨_,hd,by simp,by simp,?_⟩
  rw[←h]
  exact run_equalIn_bool' w n _ _ _ hd
 ·rename_i ty hty
  obtain⟨d,i,hd,_,hk,_⟩:=Qk htt hty
  obtain rfl:=(Qg hk).2.2.1 rfl
  cases hx;cases hy
  simp at h
  refine⟨_,hd,by simp,by simp,?_⟩
  rw[←h]
  refine(run_equalIn_string w n t _ _ hd).trans ?_
  rw[Xf,Xf,MP]
  congr 1
  rw[Bool.eq_iff_iff];simp
 ·cases h
theorem Ga[Syms](htt:TT.ok P tt){t:TypeId}{gs:List (Nat×TypeId)}{sz b:Nat}{z:AVal}(hty:tt t=some ⟨.struct gs,sz,b,z⟩)(cs:Array Value)(off:Nat):(part t cs off).run P w= .ok (.agg (cs.extract off (off+sz))) w:=by
 obtain⟨d,i,hd,hi,hk,hsz,_⟩:=Qk htt hty
 obtain⟨fs,rfl,_⟩:=(Qg hk).2.2.2.2.2.2 _ rfl
 have h1:(isAgg t).run P w= .ok true w:=by
  simp only[isAgg,Sem.run_bind,run_underlying hd,Result.andThen_ok]
  rfl
 have h2:(sizeOf t).run P w= .ok i.size w:=by simp[sizeOf,typeInfo,hi]
 simp only[part,Sem.run_bind,h1,Result.andThen_ok,if_true,h2,Sem.run_pure]
 rw[show i.size=sz from hsz]
theorem K9 [Syms] (htt : TT.ok P tt) (n : Nat) : ∀ (fs : List Field) (k : Nat) (xs ys : List AVal) (vs us : Array Value) (b : Bool), (∀ f ∈ fs, f.name ≠ "_") →
 Qs ι xs (vs.toList.drop k)→Qs ι ys (us.toList.drop k)→Ct tt (fs.map fun f=>(f.offset,f.type)) k xs ys=some b→(Op.eqFields (n+2) vs us fs).run P w= .ok b w
 |[],k,xs,ys,vs,us,b,_,_,_,h=>by
  cases xs<;>cases ys<;>simp[Ct]at h
  subst h;simp[Op.eqFields]
 |f::fs,k,xs,ys,vs,us,b,hn,hx,hy,h=>by
  simp only[List.map_cons,Ct]at h
  split at h
  rotate_left
  ·cases h
  rename_i hoff
  have hoff:=Nat.eq_of_beq_eq_true hoff
  have cut:∀sz,Qs ι (xs.drop sz) (vs.toList.drop (k+sz))∧Qs ι (ys.drop sz) (us.toList.drop (k+sz)):=fun sz=>by
   have h1:=hx.drop sz
   have h2:=hy.drop sz
   rw[List.drop_drop]at h1 h2
   exact⟨h1,h2⟩
  split at h
  ·rename_i gs sz bt z hty
   obtain⟨c,b',h1,h2,rfl⟩:=UE h
   have ih:=K9 htt n fs (k+sz) (xs.drop sz) (ys.drop sz) vs us b' (fun g hg=>hn g (by simp[hg])) (cut sz).1 (cut sz).2 h2
   refine UP _ vs us f fs c b' ?_ ih
   obtain⟨d,i,hd,hi,hk,hsz,_,_,hs⟩:=Qk htt hty
   obtain⟨qs,rfl,rfl⟩:=(Qg hk).2.2.2.2.2.2 _ rfl
   obtain⟨g1,g2⟩:=hs qs rfl
   have hf:P.fieldsOf f.type=qs:=by simp[Program.fieldsOf,hd]
   have ex:∀(cs:Array Value),cs.extract f.offset (f.offset+sz)=⟨(cs.toList.drop k).take sz⟩:=fun cs=>by
    rw[hoff]
    apply Array.ext'
    simp
   have hE:(Op.equalIn (n+2) f.type (.agg (vs.extract f.offset (f.offset+sz))) (.agg (us.extract f.offset (f.offset+sz)))).run P w= .ok c w:=by
    rw[run_equalIn_struct w (n+1) f.type _ _ (by rw[hf];exact hd) g1,hf]
    refine YX (ι:=ι) htt n qs.toList 0 (xs.take sz) (ys.take sz) _ _ c g2 ?_ ?_ h1
    ·rw[ex];exact hx.take sz
    ·rw[ex];exact hy.take sz
   simp only[Op.eqFields,hn f (by simp),ne_eq,not_false_eq_true,if_true,Sem.run_bind,Ga htt hty vs f.offset,Ga htt hty us f.offset,hE,Result.andThen_ok]
   cases c<;>simp
  ·obtain⟨c,b',h1,h2,rfl⟩:=UE h
   have ih:=K9 htt n fs (k+1) (xs.drop 1) (ys.drop 1) vs us b' (fun g hg=>hn g (by simp[hg])) (cut 1).1 (cut 1).2 h2
   refine UP _ vs us f fs c b' ?_ ih
   cases xs with
   |nil=>simp[QB]at h1
   |cons x xs=>
    cases ys with
    |nil=>simp[QB]at h1
    |cons y ys=>
     obtain⟨v,vs',hv1,hv2,hv3⟩:=hx.uncons
     obtain⟨u,us',hu1,hu2,hu3⟩:=hy.uncons
     have e1:vs[f.offset]?=some v:=by
      have:(vs.toList.drop k)[0]?=some v:=by rw[hv1];rfl
      rw[List.getElem?_drop]at this
      rw[hoff,←Array.getElem?_toList];simpa using this
     have e2:us[f.offset]?=some u:=by
      have:(us.toList.drop k)[0]?=some u:=by rw[hu1];rfl
      rw[List.getElem?_drop]at this
      rw[hoff,←Array.getElem?_toList];simpa using this
     obtain⟨d,hd,q1,q2,hE⟩:=Ig (w:=w) htt (n+1) hv2 hu2 h1
     simp only[Op.eqFields,hn f (by simp),ne_eq,not_false_eq_true,if_true,Sem.run_bind,KB hd q1 q2 vs f.offset e1,KB hd q1 q2 us f.offset e2,hE,Result.andThen_ok]
     cases c<;>simp
theorem Ka[Syms](htt:TT.ok P tt):∀(fs:List Field) (k:Nat) (xs ys:List AVal) (b:Bool) (n:Nat),Ct tt (fs.map fun f=>(f.offset,f.type)) k xs ys=some b→ ∀g∈fs,P.eqGuardType (n+2) g.type=false
 |[],_,_,_,_,_,_=>by simp
 |f::fs,k,xs,ys,b,n,h=>by
  simp only[List.map_cons,Ct]at h
  split at h
  rotate_left
  ·cases h
  split at h
  ·rename_i gs sz bt z hty
   obtain⟨c,b',h1,h2,rfl⟩:=UE h
   intro g hg
   rcases List.mem_cons.1 hg with rfl|hg
   ·obtain⟨d,i,hd,hi,hk,hsz,_,_,hs⟩:=Qk htt hty
    obtain⟨qs,rfl,rfl⟩:=(Qg hk).2.2.2.2.2.2 _ rfl
    have:=XF htt qs.toList 0 _ _ c n h1
    unfold Program.eqGuardType
    rw[hd]
    simp only
    rw[Array.any_eq_false']
    intro f hf
    have:=this f (by simpa using hf)
    simp[this]
   ·exact Ka htt fs _ _ _ b' n h2 g hg
  ·obtain⟨c,b',h1,h2,rfl⟩:=UE h
   intro g hg
   rcases List.mem_cons.1 hg with rfl|hg
   ·cases xs with
    |nil=>simp[QB]at h1
    |cons x xs=>
     cases ys with
     |nil=>simp[QB]at h1
     |cons y ys=>exact XF htt [g] k [x] [y] c (n+1) h1 g (by simp)
   ·exact Ka htt fs _ _ _ b' n h2 g hg
theorem Gr[Syms](htt:TT.ok P tt){t:TypeId}{xs ys:List AVal}{v u:Value}{b:Bool}(hx:RelV ι (.agg xs) v)(hy:RelV ι (.agg ys) u)(h:Dp tt t xs ys=some b)(op:BinOp)(ox oy:Operand):
 (eqGuard op t ox oy v u).run P w= .ok () w∧(binOp .eql t v u).run P w= .ok (.bool b) w∧(binOp .neq t v u).run P w= .ok (.bool (!b)) w:=by
 obtain⟨vs,rfl,hv⟩:=hx.of_agg
 obtain⟨us,rfl,hu⟩:=hy.of_agg
 unfold Dp at h
 split at h
 ·rename_i ty hty
  obtain⟨d,i,hd,_,hk,_,_,_,hs⟩:=Qk htt hty
  obtain⟨gs,rfl,rfl⟩:=(Qg hk).2.2.2.2.2.2 _ rfl
  obtain⟨h1,h2⟩:=hs gs rfl
  have hE:(Op.equalIn (9998+2) t (.agg ⟨vs⟩) (.agg ⟨us⟩)).run P w= .ok b w:=by
   have hf:P.fieldsOf t=gs:=by simp[Program.fieldsOf,hd]
   rw[run_equalIn_struct w (9998+1) t _ _ (by rw[hf];exact hd) h1,hf]
   split at h
   ·rename_i b' hb
    cases h
    exact YX htt 9998 gs.toList 0 xs ys _ _ b h2 (by simpa using hv) (by simpa using hu) hb
   ·exact K9 htt 9997 gs.toList 0 xs ys _ _ b h2 (by simpa using hv) (by simpa using hu) h
  have hg:P.eqGuardType P.depth t=false:=by
   have hp:P.depth=(2*(P.types.size+Made.depth))+1+1:=rfl
   rw[hp]
   have:∀g∈gs.toList,P.eqGuardType (2*(P.types.size+Made.depth)+1) g.type=false:=by
    split at h
    ·rename_i b' hb
     exact XF htt gs.toList 0 xs ys b' (2*(P.types.size+Made.depth)) hb
    ·have:=Ka htt gs.toList 0 xs ys b (2*(P.types.size+99)+1) h
     have e:2*(P.types.size+Made.depth)+1=2*(P.types.size+99)+1+2:=by unfold Made.depth;omega
     rw[e]
     exact this
   unfold Program.eqGuardType
   rw[hd]
   simp only
   rw[Array.any_eq_false']
   intro f hf
   have:=this f (by simpa using hf)
   simp[this]
  refine⟨run_eqGuard_agg w op t ox oy _ _ hg,?_,?_⟩
  ·rw[run_eql_struct,hE];rfl
  ·rw[run_neq_struct,hE];rfl
 ·cases h
end
end Go.Av
end
end
section
set_option linter.unusedVariables false
set_option linter.unusedSimpArgs false
noncomputable section
namespace Go.Av
section
variable {P:Program} {tt:TT} {ι:Inj} {w:World} {H:Heap}
theorem RelV.of_int[Syms]{k:IntKind}{n:Int}{v:Value}(h:RelV ι (.int k n) v):v= .int k n:=by cases h;rfl
theorem RelV.of_ptr[Syms]{n k j:Nat}{v:Value}(h:RelV ι (.ptr n k j) v):∃L,ι n=some L∧v= .pointer (some ⟨L.g,L.base+k*L.size+j,none⟩):=by
 cases h with
 |ptr n k j L hL=>exact⟨L,hL,rfl⟩
theorem RelV.of_slice[Syms]{n off len sz:Nat}{cap:Option Nat}{v:Value}(h:RelV ι (.slice n off len sz cap) v):∃L a c,ι n=some L∧L.size=sz∧(c=0∨a=⟨L.g,L.base+off*L.size,none⟩)∧len≤c∧
 L.base+(off+c)*L.size≤L.phys∧c≤maxLen∧(∀k,cap=some k→c=k)∧v= .slice (some a) len c:=by
 cases h with
 |slice n off len sz cap L a c hL hs ha hl hp hm hc=>exact⟨L,a,c,hL,hs,ha,hl,hp,hm,hc,rfl⟩
theorem RelV.of_vz[Syms]{sz:Nat}{v:Value}(h:RelV ι (.vs sz []) v):∃a c,c≤maxLen∧(a=none→c=0)∧v= .slice a 0 c:=by
 cases h with
 |vs _ _ g o c cs hf hl hm hp hr h1 h=>exact⟨some ⟨g,o,none⟩,c,hm,(fun h=>nomatch h),rfl⟩
 |vz _ a c hm hc=>exact⟨a,c,hm,hc,rfl⟩
theorem RelV.vs_len[Syms]{sz:Nat}{rows:List (List AVal)}{v:Value}(h:RelV ι (.vs sz rows) v):∃a c,v= .slice a rows.length c:=by
 cases h with
 |vs _ _ g o c cs hf hl hm hp hr h1 h=>exact⟨_,c,rfl⟩
 |vz _ a c hm hc=>exact⟨a,c,rfl⟩
theorem RelV.of_vs[Syms]{sz:Nat}{rows:List (List AVal)}{v:Value}(h:RelV ι (.vs sz rows) v)(hne:rows≠[]):∃g o c cs,ι.fz g=some cs∧rows.length≤c∧c≤maxLen∧o+rows.length*sz≤cs.size∧
 (∀(k:Nat) (row:List AVal),rows[k]?=some row→row.length=sz)∧(∀(k j:Nat) (v:Value),k<rows.length→j<sz→cs[o+k*sz+j]?=some v→v.oneCell'=true)∧
 (∀(k j:Nat) (row:List AVal) (x:AVal) (v:Value),rows[k]?=some row→row[j]?=some x→cs[o+k*sz+j]?=some v→RelV ι.bare x v)∧v= .slice (some ⟨g,o,none⟩) rows.length c:=by
 cases h with
 |vs sz rows g o c cs hf hl hm hp hr h1 h=>exact⟨g,o,c,cs,hf,hl,hm,hp,hr,h1,h,rfl⟩
 |vz=>exact absurd rfl hne
theorem RelV.vs_rows[Syms]{sz:Nat}{rows:List (List AVal)}{v:Value}(h:RelV ι (.vs sz rows) v)(hne:rows≠[]):∃g o c cs,ι.fz g=some cs∧rows.length≤c∧c≤maxLen∧o+rows.length*sz≤cs.size∧QE ι.bare cs o sz rows∧v= .slice (some ⟨g,o,none⟩) rows.length c:=by
 obtain⟨g,o,c,cs,g1,g2,g3,g4,g5,g6,g7,rfl⟩:=h.of_vs hne
 refine⟨g,o,c,cs,g1,g2,g3,g4,fun k row hk=>⟨g5 k row hk,fun j x hj=>?_⟩,rfl⟩
 have hk':=(List.getElem?_eq_some_iff.1 hk).1
 have hj':=(List.getElem?_eq_some_iff.1 hj).1
 rw[g5 k row hk]at hj'
 have:=XJ (s:=sz) hk'
 have hv:cs[o+k*sz+j]?=some (cs[o+k*sz+j]'(by omega)):=Array.getElem?_eq_getElem _
 exact⟨_,hv,g6 k j _ hk' hj' hv,g7 k j row x _ hk hj hv⟩
theorem RelV.mk_vs[Syms]{sz:Nat}{rows:List (List AVal)}{g o c:Nat}{cs:Array Value}(hf:ι.fz g=some cs)(hl:rows.length≤c)(hm:c≤maxLen)(hp:o+rows.length*sz≤cs.size)(h:QE ι.bare cs o sz rows):
 RelV ι (.vs sz rows) (.slice (some ⟨g,o,none⟩) rows.length c):=by
 refine .vs sz rows g o c cs hf hl hm hp (fun k row hk=>(h k row hk).1) (fun k j v hk hj hv=>?_) (fun k j row x v hk hj hv=>?_)
 ·have hr:rows[k]?=some rows[k]:=List.getElem?_eq_getElem hk
  obtain⟨h1,h2⟩:=h k _ hr
  obtain⟨v',h3,h4,_⟩:=h2 j _ (List.getElem?_eq_getElem (by omega))
  rw[hv]at h3
  cases h3
  exact h4
 ·obtain⟨v',h3,_,h4⟩:=(h k row hk).2 j x hj
  rw[hv]at h3
  cases h3
  exact h4
theorem RelV.of_vp[Syms]{row:List AVal}{j:Nat}{v:Value}(h:RelV ι (.vp row j) v):∃g b cs,ι.fz g=some cs∧b+row.length≤cs.size∧(∀(i:Nat) (v:Value),i<row.length→cs[b+i]?=some v→v.oneCell'=true)∧
 (∀(i:Nat) (x:AVal) (v:Value),row[i]?=some x→cs[b+i]?=some v→RelV ι.bare x v)∧v= .pointer (some ⟨g,b+j,none⟩):=by
 cases h with
 |vp row j g b cs hf hp h1 h=>exact⟨g,b,cs,hf,hp,h1,h,rfl⟩
theorem RelV.of_zs[Syms]{sz:Nat}{v:Value}(h:RelV ι (.zs sz) v):∃a,v= .slice a 0 0:=by
 cases h with
 |zs sz a=>exact⟨a,rfl⟩
theorem Z1{t:TypeId}{i:TypeInfo}(h:P.info? t=some i):(sizeOf t).run P w= .ok i.size w:=by simp[sizeOf,typeInfo,h]
theorem HE{t:TypeId}{i:TypeInfo}(h:P.info? t=some i):(typeInfo t).run P w= .ok i w:=by simp[typeInfo,h]
theorem Dr{t:TypeId}{i:TypeInfo}{z:Value}(h:P.info? t=some i)(hz:i.zero=some z):(zeroValue t).run P w= .ok z w:=by simp[zeroValue,typeInfo,h,hz]
theorem CH[Syms]{op:UnOp}{x z:AVal}{v:Value}(hx:RelV ι x v)(h:Nk op x=some z):∃r,(Op.unary op v).run P w= .ok r w∧RelV ι z r:=by
 unfold Nk at h
 split at h
 ·cases op<;>simp only at h<;>cases h
  cases hx
  exact⟨_,rfl,.bool _⟩
 ·rename_i k n
  cases hx
  cases op<;>simp only[Fe]at h
  case neg=>cases h;exact⟨.int k (k.wrap (0-n)),by simp[Op.unary,Op.intArith],by rw[GM];exact .int _ _⟩
  case xor=>
   cases h
   exact⟨.int k _,by simp only[Op.unary,Op.intBits,Sem.run_pure],.int _ _⟩
  all_goals cases h
 ·cases h
theorem YL{t:TypeId}{d:TypeDesc}{kd:Kd}(h:P.underlying t=some d)(hf:kd.fits d=true):(isAgg t).run P w= .ok (WV kd) w:=by
 simp only[isAgg,Sem.run_bind,run_underlying h,Result.andThen_ok]
 cases kd<;>cases d<;>simp[Kd.fits]at hf<;>rfl
theorem Gn[Syms](htt:TT.ok P tt){t:TypeId}{cs:List AVal}{vs:List Value}{off:Nat}{z:AVal}(hr:Qs ι cs vs)(h:apart tt t cs off=some z):
 ∃r,(part t ⟨vs⟩ off).run P w= .ok r w∧RelV ι z r:=by
 unfold apart at h
 split at h
 ·rename_i ty hty
  obtain⟨d,i,hd,hi,hk,hsz,_⟩:=Qk htt hty
  split at h
  ·rename_i ha
   split at h
   ·rename_i hle
    cases h
    refine⟨.agg ⟨(vs.drop off).take ty.size⟩,?_,.mk_agg ((hr.drop off).take _)⟩
    simp only[part,Sem.run_bind,YL hd hk,ha,Result.andThen_ok,if_true,Z1 hi,hsz,Sem.run_pure]
    congr 2
    apply Array.ext'
    simp
   ·cases h
  ·rename_i ha
   have ha:WV ty.kd=false:=by simpa using ha
   obtain⟨v,hv,hx⟩:=hr.get h
   refine⟨v,?_,hx⟩
   have hv':(⟨vs⟩:Array Value)[off]?=some v:=by simpa using hv
   simp only[part,Sem.run_bind,YL hd hk,ha,Result.andThen_ok,Bool.false_eq_true,if_false,hv',Sem.run_pure]
 ·cases h
theorem Bp[Syms](htt:TT.ok P tt){s:TypeId}{x z:AVal}{v:Value}{f:Nat}(hx:RelV ι x v)(h:EY tt s x f=some z):∃r,(Instr.field s v f).run P w= .ok r w∧RelV ι z r:=by
 unfold EY at h
 split at h
 ·rename_i ty hty
  obtain⟨d,i,hd,hi,hk,_⟩:=Qk htt hty
  obtain⟨gs,rfl,rfl⟩:=(Qg hk).2.2.2.2.2.2 _ rfl
  obtain⟨vs,rfl,hl⟩:=hx.of_agg
  split at h
  ·rename_i off t ht
   rw[List.getElem?_map,Option.map_eq_some_iff]at ht
   obtain⟨g,hg,he⟩:=ht
   obtain⟨e1,e2⟩:=Prod.mk.inj he
   subst e1;subst e2
   obtain⟨r,hr,hz⟩:=Gn (w:=w) htt hl h
   refine⟨r,?_,hz⟩
   have hg':gs[f]?=some g:=by simpa using hg
   simp only[Instr.field,Sem.run_bind,run_underlying hd,Result.andThen_ok,hg',asAgg,Sem.run_pure,hr]
  ·cases h
 ·cases h
theorem JZ[Syms](htt:TT.ok P tt){s:TypeId}{x z:AVal}{v:Value}{f:Nat}(hx:RelV ι x v)(h:VQ tt s x f=some z):∃r,(Instr.fieldAt s v f).run P w= .ok r w∧RelV ι z r:=by
 unfold VQ at h
 split at h
 ·rename_i ty hty
  obtain⟨d,i,hd,hi,hk,_⟩:=Qk htt hty
  obtain⟨gs,rfl,rfl⟩:=(Qg hk).2.2.2.2.2.2 _ rfl
  split at h
  ·rename_i off t ht
   rw[List.getElem?_map,Option.map_eq_some_iff]at ht
   obtain⟨g,hg,he⟩:=ht
   obtain⟨e1,e2⟩:=Prod.mk.inj he
   subst e1;subst e2
   split at h
   ·rename_i fty hfty
    obtain⟨fd,fi,hfd,hfi,hfk,hfs,_⟩:=Qk htt hfty
    split at h
    ·cases h
    ·rename_i hne
     cases h
     obtain⟨L,hL,rfl⟩:=hx.of_ptr
     ·have hg':gs[f]?=some g:=by simpa using hg
      refine⟨_,?_,.ptr _ _ _ L hL⟩
      have hne':¬fi.size=0:=by omega
      simp only[Instr.fieldAt,Sem.run_bind,run_underlying hd,Result.andThen_ok,hg',Instr.sureAddr,Sem.run_pure,fieldPlace,Z1 hfi,hne',if_false,Ze,Nat.add_assoc]
   ·cases h
  ·cases h
 ·rename_i ty hty
  obtain⟨d,i,hd,hi,hk,_⟩:=Qk htt hty
  obtain⟨gs,rfl,rfl⟩:=(Qg hk).2.2.2.2.2.2 _ rfl
  split at h
  ·rename_i off t ht
   rw[List.getElem?_map,Option.map_eq_some_iff]at ht
   obtain⟨g,hg,he⟩:=ht
   obtain⟨e1,e2⟩:=Prod.mk.inj he
   subst e1;subst e2
   split at h
   ·rename_i fty hfty
    obtain⟨fd,fi,hfd,hfi,hfk,hfs,_⟩:=Qk htt hfty
    split at h
    ·cases h
    ·rename_i hne
     cases h
     obtain⟨gg,b,cs,h1,h2,h3,h4,rfl⟩:=hx.of_vp
     have hg':gs[f]?=some g:=by simpa using hg
     refine⟨_,?_,.vp _ _ gg b cs h1 h2 h3 h4⟩
     have hne':¬fi.size=0:=by omega
     simp only[Instr.fieldAt,Sem.run_bind,run_underlying hd,Result.andThen_ok,hg',Instr.sureAddr,Sem.run_pure,fieldPlace,Z1 hfi,hne',if_false,Ze,Nat.add_assoc]
   ·cases h
  ·cases h
 ·cases h
theorem JX[Syms](htt:TT.ok P tt){t:TypeId}{x ix z:AVal}{v u:Value}(hx:RelV ι x v)(hy:RelV ι ix u)(h:ZI tt t x ix=some z):
 ∃r,(Instr.indexAt t v u).run P w= .ok r w∧RelV ι z r:=by
 unfold ZI at h
 split at h
 ·rename_i ty hty
  obtain⟨d,i,hd,hi,hk,_⟩:=Qk htt hty
  obtain rfl:=(Qg hk).2.2.2.1 _ rfl
  split at h
  ·rename_i ety hety
   obtain⟨ed,ei,hed,hei,hek,hes,_⟩:=Qk htt hety
   split at h
   ·rename_i hc
    obtain⟨h0,h1,h2⟩:=hc
    cases h
    obtain rfl:=hy.of_int
    obtain⟨L,a,c,hL,hs,ha,hl,hp,hm,hcap,rfl⟩:=hx.of_slice
    ·have hc0:¬c=0:=by omega
     obtain rfl:=ha.resolve_left hc0
     refine⟨_,?_,.ptr _ _ _ L hL⟩
     have hcond:=And.intro h0 h1
     simp only[Instr.indexAt,Sem.run_bind,asIntOf,Sem.run_pure,run_underlying hd,Result.andThen_ok,hcond,and_self,if_true,Z1 hei,Ze,hes,h2,←hs,Nat.add_zero,Nat.add_mul,Nat.add_assoc]
   ·cases h
  ·cases h
 ·rename_i sz rows kk iv hty
  obtain⟨d,i,hd,hi,hk,_⟩:=Qk htt hty
  obtain rfl:=(Qg hk).2.2.2.1 _ rfl
  split at h
  ·rename_i ety hety
   obtain⟨ed,ei,hed,hei,hek,hes,_⟩:=Qk htt hety
   split at h
   ·rename_i hc
    obtain⟨h0,h1,h2⟩:=hc
    cases h
    obtain rfl:=hy.of_int
    obtain⟨gg,o,c,cs,g1,g2,g3,g4,g5,g6,g7,rfl⟩:=hx.of_vs (fun e=>by rw[e,List.length_nil]at h1;omega)
    have hlt:iv.toNat<rows.length:=by omega
    have hrow:rows[iv.toNat]?=some (rows.getD iv.toNat []):=by simp[hlt]
    have hlen:=g5 _ _ hrow
    have hmul:iv.toNat*sz+sz≤rows.length*sz:=by
     have:=Nat.mul_le_mul_right sz (show iv.toNat+1≤rows.length by omega)
     rwa [Nat.add_mul,Nat.one_mul]at this
    refine⟨_,?_,.vp _ 0 gg (o+iv.toNat*sz) cs g1 (by omega) (fun q v hq hv=>g6 iv.toNat q v hlt (by omega) hv) (fun q x v hq hv=>g7 iv.toNat q _ x v hrow hq hv)⟩
    have hcond:=And.intro h0 h1
    simp only[Instr.indexAt,Sem.run_bind,asIntOf,Sem.run_pure,run_underlying hd,Result.andThen_ok,hcond,and_self,if_true,Z1 hei,Ze,hes,h2,Nat.add_zero]
   ·cases h
  ·cases h
 ·rename_i ty hty
  obtain⟨d,i,hd,hi,hk,_⟩:=Qk htt hty
  obtain rfl:=(Qg hk).2.2.2.2.1 _ _ rfl
  split at h
  ·rename_i ety hety
   obtain⟨ed,ei,hed,hei,hek,hes,_⟩:=Qk htt hety
   split at h
   ·rename_i hc
    cases h
    obtain rfl:=hy.of_int
    obtain⟨L,hL,rfl⟩:=hx.of_ptr
    ·refine⟨_,?_,.ptr _ _ _ L hL⟩
     simp only[Instr.indexAt,Sem.run_bind,asIntOf,Sem.run_pure,run_underlying hd,Result.andThen_ok,Instr.sureAddr,hc,and_self,if_true,Z1 hei,Ze,hes,Nat.add_assoc]
   ·cases h
  ·cases h
 ·cases h
theorem Bn[Syms](htt:TT.ok P tt){t:TypeId}{x ix z:AVal}{v u:Value}(hx:RelV ι x v)(hy:RelV ι ix u)(h:JY tt t x ix=some z):
 ∃r,(Instr.index t v u).run P w= .ok r w∧RelV ι z r:=by
 unfold JY at h
 split at h
 ·rename_i ty hty
  obtain⟨d,i,hd,hi,hk,_⟩:=Qk htt hty
  obtain rfl:=(Qg hk).2.2.1 rfl
  split at h
  ·rename_i h0
   split at h
   ·rename_i b hb
    cases h
    cases hy
    cases hx
    refine⟨.int .u8 b.toNat,?_,.int _ _⟩
    simp only[Instr.index,Sem.run_bind,asIntOf,Sem.run_pure,run_underlying hd,Result.andThen_ok,h0,if_true,PI,hb]
   ·cases h
  ·cases h
 ·rename_i ty hty
  obtain⟨d,i,hd,hi,hk,_⟩:=Qk htt hty
  obtain rfl:=(Qg hk).2.2.2.2.1 _ _ rfl
  split at h
  ·rename_i ety hety
   obtain⟨ed,ei,hed,hei,hek,hes,_⟩:=Qk htt hety
   split at h
   ·rename_i hc
    obtain⟨vs,rfl,hl⟩:=hx.of_agg
    cases hy
    obtain⟨r,hr,hz⟩:=Gn (w:=w) htt hl h
    refine⟨r,?_,hz⟩
    simp only[Instr.index,Sem.run_bind,asIntOf,Sem.run_pure,run_underlying hd,Result.andThen_ok,hc,and_self,if_true,Z1 hei,hes,hr]
   ·cases h
  ·cases h
 ·cases h
theorem Gq[Syms](htt:TT.ok P tt)(hH:RelH ι H w){t:TypeId}{x z:AVal}{v:Value}(hx:RelV ι x v)(h:J7 tt H t x=some z):∃r,(Instr.loadAt t v).run P w= .ok r w∧RelV ι z r:=by
 unfold J7 at h
 split at h
 ·rename_i n k j
  split at h
  ·rename_i rows ro ty hb hty
   obtain⟨d,i,hd,hi,hk,hsz,_⟩:=Qk htt hty
   split at h
   ·rename_i row hrow
    cases hx with
    |ptr n k j L hL=>
    obtain⟨L',hL',hB⟩:=hH.blk n _ hb
    obtain rfl:L=L':=by rw[hL]at hL';exact Option.some.inj hL'
    obtain⟨cs,e,fz,h1,h2,h3,h4,h5⟩:=hB.rows
    obtain⟨h6,h7⟩:=h4 k row hrow
    split at h
    ·rename_i ha
     split at h
     ·rename_i hle
      cases h
      obtain⟨us,hus,hc⟩:=Vc (ι:=ι) (Pr:=fun q v=>w.cell? ⟨L.g,L.base+k*L.size+j+q,none⟩=some v) ((row.drop j).take ty.size) 0 (fun q x hq=>by
       have hlt:q<ty.size:=by
        have:=(List.getElem?_eq_some_iff.1 hq).1
        simp at this;omega
       rw[List.getElem?_take_of_lt hlt,List.getElem?_drop]at hq
       obtain⟨v,hv,_,hr⟩:=h7 _ x hq
       refine⟨v,?_,hr⟩
       rw[cell_of_row w L.g _ cs e fz h1,←hv]
       congr 1
       omega)
      refine⟨.agg ⟨us⟩,?_,.mk_agg hus⟩
      have hlen:us.length=i.size:=by
       rw[←hus.1,hsz];simp;omega
      have hload:=run_loadCells_list (P:=P) w ⟨L.g,L.base+k*L.size+j,none⟩ us (fun q v hq=>by rw[Ze];simpa using hc q v hq)
      rw[hlen]at hload
      simp only[Instr.loadAt,Instr.sureAddr,Sem.run_bind,Sem.run_pure,Result.andThen_ok,loadVar,YL hd hk,ha,if_true,Z1 hi,hload]
     ·cases h
    ·rename_i ha
     have ha:WV ty.kd=false:=by simpa using ha
     obtain⟨v,hv,_,hr⟩:=h7 j z h
     refine⟨v,?_,hr⟩
     have hcell:w.cell? ⟨L.g,L.base+k*L.size+j,none⟩=some v:=by rw[cell_of_row w L.g _ cs e fz h1];exact hv
     simp only[Instr.loadAt,Instr.sureAddr,Sem.run_bind,Sem.run_pure,Result.andThen_ok,loadVar,YL hd hk,ha,Bool.false_eq_true,if_false,run_load,hcell]
   ·cases h
  ·cases h
 ·rename_i row j
  obtain⟨gg,b,cs,f1,f2,f3,f4,rfl⟩:=hx.of_vp
  obtain⟨⟨e,fz,hw⟩,_⟩:=hH.fz gg cs f1
  split at h
  ·rename_i ty hty
   obtain⟨d,i,hd,hi,hk,hsz,_⟩:=Qk htt hty
   have cell:∀(q:Nat) (x:AVal),row[q]?=some x→ ∃v,cs[b+q]?=some v∧RelV ι x v:=by
    intro q x hq
    have hlt:=(List.getElem?_eq_some_iff.1 hq).1
    have hv:cs[b+q]?=some (cs[b+q]'(by omega)):=Array.getElem?_eq_getElem _
    exact⟨_,hv,(f4 q x _ hq hv).mono ι.bare_le⟩
   split at h
   ·rename_i ha
    split at h
    ·rename_i hle
     cases h
     obtain⟨us,hus,hc⟩:=Vc (ι:=ι) (Pr:=fun q v=>w.cell? ⟨gg,b+j+q,none⟩=some v) ((row.drop j).take ty.size) 0 (fun q x hq=>by
      have hlt:q<ty.size:=by
       have:=(List.getElem?_eq_some_iff.1 hq).1
       simp at this;omega
      rw[List.getElem?_take_of_lt hlt,List.getElem?_drop]at hq
      obtain⟨v,hv,hr⟩:=cell _ x hq
      refine⟨v,?_,hr⟩
      rw[cell_of_row w gg _ cs e fz hw,←hv]
      congr 1
      omega)
     refine⟨.agg ⟨us⟩,?_,.mk_agg hus⟩
     have hlen:us.length=i.size:=by
      rw[←hus.1,hsz];simp;omega
     have hload:=run_loadCells_list (P:=P) w ⟨gg,b+j,none⟩ us (fun q v hq=>by rw[Ze];simpa using hc q v hq)
     rw[hlen]at hload
     simp only[Instr.loadAt,Instr.sureAddr,Sem.run_bind,Sem.run_pure,Result.andThen_ok,loadVar,YL hd hk,ha,if_true,Z1 hi,hload]
    ·cases h
   ·rename_i ha
    have ha:WV ty.kd=false:=by simpa using ha
    obtain⟨v,hv,hr⟩:=cell j z h
    refine⟨v,?_,hr⟩
    have hcell:w.cell? ⟨gg,b+j,none⟩=some v:=by rw[cell_of_row w gg _ cs e fz hw];exact hv
    simp only[Instr.loadAt,Instr.sureAddr,Sem.run_bind,Sem.run_pure,Result.andThen_ok,loadVar,YL hd hk,ha,Bool.false_eq_true,if_false,run_load,hcell]
  ·cases h
 ·cases h
end
end Go.Av
end
end
section
set_option linter.unusedVariables false
set_option linter.unusedSimpArgs false
noncomputable section
namespace Go.Av
section
variable {P:Program} {tt:TT} {ι:Inj} {w:World} {H:Heap} {m:Nat}
def CQ[Syms](ι:Inj)(x:Option AVal)(v:Option Value):Prop:=match x,v with|none,none=>True|some a,some u=>RelV ι a u|_,_=>False
theorem VR[Syms]{x:Option AVal}{d n:Nat}(h:Z7 x d=some n){v:Option Value}(hr:CQ ι x v):
 (x=none∧v=none∧n=d)∨ ∃(k:IntKind) (i:Int),x=some (.int k i)∧v=some (.int k i)∧0≤i∧n=i.toNat:=by
 cases x with
 |none=>
  simp only[Z7,Option.some.injEq]at h
  cases v with
  |none=>exact .inl ⟨rfl,rfl,h.symm⟩
  |some u=>exact hr.elim
 |some a=>
  cases a with
  |int k i=>
   simp only[Z7]at h
   split at h
   ·rename_i h0
    simp only[Option.some.injEq]at h
    cases v with
    |none=>exact hr.elim
    |some u=>
     have hr:RelV ι (.int k i) u:=hr
     obtain rfl:=hr.of_int
     exact .inr ⟨k,i,rfl,rfl,h0,h.symm⟩
   ·cases h
  |_=>cases h
theorem IG(k:IntKind)(i:Int)(y:Nat)(code:BoundsCode)(h0:0≤i)(h1:i.toNat≤y):(Instr.sliceBound (.int k i) y code).run P w= .ok i.toNat w:=by
 have h2:i≤(y:Int):=by omega
 simp[Instr.sliceBound,asIntOf,h0,h2]
theorem X9[Syms](isS:Bool)(len cap:Nat)(lo hi mx:Option AVal)(vlo vhi vmx:Option Value)(l h mm:Nat)(hlo:CQ ι lo vlo)(hhi:CQ ι hi vhi)(hmx:CQ ι mx vmx)
 (el:Z7 lo 0=some l) (eh:Z7 hi len=some h) (em:Z7 mx cap=some mm) (h1:l≤h) (h2:h≤mm) (h3:mm≤cap) (h4:hi.isNone=true→mx.isNone=true):
 (Instr.sliceBounds isS len cap vlo vhi vmx).run P w= .ok (l,h,mm) w:=by
 rcases VR el hlo with⟨rfl,rfl,rfl⟩|⟨k1,i1,rfl,rfl,p1,rfl⟩<;>
 rcases VR eh hhi with⟨rfl,rfl,rfl⟩|⟨k2,i2,rfl,rfl,p2,rfl⟩<;>
 rcases VR em hmx with⟨rfl,rfl,rfl⟩|⟨k3,i3,rfl,rfl,p3,rfl⟩<;>
 first
  |(simp at h4;done)
  |(simp(disch:=assumption) only[Instr.sliceBounds,Sem.run_bind,Sem.run_pure,Result.andThen_ok,IG])
theorem Bf[Syms](htt:TT.ok P tt){t:TypeId}{x z:AVal}{lo hi mx:Option AVal}{v:Value}{vlo vhi vmx:Option Value}(hx:RelV ι x v)(hlo:CQ ι lo vlo)(hhi:CQ ι hi vhi)(hmx:CQ ι mx vmx)
 (h:Ym tt t x lo hi mx=some z):∃r,(Instr.sliceAt t v vlo vhi vmx).run P w= .ok r w∧RelV ι z r:=by
 unfold Ym at h
 split at h
 ·rename_i ty hty
  obtain⟨d,i,hd,hi',hk,_⟩:=Qk htt hty
  obtain rfl:=(Qg hk).2.2.1 rfl
  split at h
  ·rename_i l hh el eh
   split at h
   ·rename_i hc
    cases h
    cases hx
    obtain⟨c1,c2⟩:=hc
    have hmn:vmx=none:=by cases vmx with|none=>rfl|some _=>exact hmx.elim
    subst hmn
    refine⟨_,?_,.str _⟩
    have hb:=X9 (P:=P) (w:=w) (ι:=ι) false _ _ lo hi none vlo vhi none l hh _ hlo hhi trivial el eh rfl c1 c2 (Nat.le_refl _) (fun _=>rfl)
    simp only[Instr.sliceAt,Instr.slice,Sem.run_bind,run_underlying hd,Result.andThen_ok,Option.isSome_none,Bool.false_eq_true,if_false,Sem.run_pure,J2,hb,F2]
   ·cases h
  ·cases h
 ·rename_i ty hty
  obtain⟨d,i,hd,hi',hk,_⟩:=Qk htt hty
  obtain rfl:=(Qg hk).2.2.2.1 _ rfl
  split at h
  ·rename_i ety el eh em hety
   obtain⟨ed,ei,hed,hei,hek,hes,_⟩:=Qk htt hety
   split at h
   ·cases h
   ·rename_i hc
    cases h
    cases hx
    refine⟨_,?_,.nils⟩
    have hb:=X9 (P:=P) (w:=w) (ι:=ι) true 0 0 lo hi mx vlo vhi vmx 0 0 0 hlo hhi hmx el eh em (Nat.le_refl _) (Nat.le_refl _) (Nat.le_refl _) (fun hn=>by
     cases mx with
     |none=>rfl
     |some a=>exact absurd ⟨hn,rfl⟩ hc)
    simp only[Instr.sliceAt,Instr.slice,Sem.run_bind,run_underlying hd,Result.andThen_ok,hb,Z1 hei,Sem.run_pure,if_true,Nat.sub_self]
  ·cases h
 ·rename_i ty n off len sz cap hty
  obtain⟨d,i,hd,hi',hk,_⟩:=Qk htt hty
  obtain rfl:=(Qg hk).2.2.2.1 _ rfl
  split at h
  ·rename_i l hh mm ety el eh em hety
   obtain⟨ed,ei,hed,hei,hek,hes,_⟩:=Qk htt hety
   split at h
   ·rename_i hc
    obtain⟨c1,c2,c3,c4,c5,c6⟩:=hc
    cases h
    obtain⟨L,a,c,hL,hs,ha,hl,hp,hm,hcap,rfl⟩:=hx.of_slice
    -- the bound of the cut that the model takes
    obtain⟨M,hM,hM2,hM3⟩:∃M,Z7 mx c=some M∧hh≤M∧M≤c∧(∀k,(match mx with|some _=>some (mm-l)|none=>cap.map (· -l))=some k→M-l=k):=by
     cases mx with
     |none=>
      refine⟨c,rfl,by omega,Nat.le_refl _,fun k hk=>?_⟩
      simp only[Option.map_eq_some_iff]at hk
      obtain⟨k',hk',rfl⟩:=hk
      rw[hcap k' hk']
     |some a'=>
      refine⟨mm,?_,c3,by omega,fun k hk=>by cases hk;rfl⟩
      unfold Z7 at em ⊢
      cases a'<;>simp_all
    have hb:=X9 (P:=P) (w:=w) (ι:=ι) true len c lo hi mx vlo vhi vmx l hh M hlo hhi hmx el eh hM c1 hM2 hM3.1 c5
    refine⟨.slice (some (if M=l then a else a.add (l*sz))) (hh-l) (M-l),?_,?_⟩
    ·simp only[Instr.sliceAt,Instr.slice,Sem.run_bind,run_underlying hd,Result.andThen_ok,hb,Z1 hei,hes,c6,Sem.run_pure]
     split<;>rfl
    ·refine .slice n (off+l) (hh-l) sz _ L _ (M-l) hL hs ?_ (by omega) ?_ (by omega) hM3.2
     ·by_cases hml:M=l
      ·exact .inl (by omega)
      ·right
       have hc0:¬c=0:=by omega
       rw[if_neg hml,ha.resolve_left hc0,Ze,Nat.add_mul,hs,Nat.add_assoc]
     ·have:(off+l+(M-l))*L.size≤(off+c)*L.size:=Nat.mul_le_mul_right _ (by omega)
      omega
   ·cases h
  ·cases h
 ·rename_i sz rows hty
  obtain⟨d,i,hd,hi',hk,_⟩:=Qk htt hty
  obtain rfl:=(Qg hk).2.2.2.1 _ rfl
  split at h
  ·rename_i l hh mm ety el eh em hety
   obtain⟨ed,ei,hed,hei,hek,hes,_⟩:=Qk htt hety
   split at h
   ·rename_i hc
    obtain⟨c1,c2,c3,c4,c5,c6⟩:=hc
    by_cases hne:rows=[]
    ·subst hne
     rw[List.length_nil]at c2 c4
     obtain⟨a,c,hm,hac,rfl⟩:=hx.of_vz
     obtain⟨M,hM,hM2,hM3,hM4⟩:∃M,Z7 mx c=some M∧hh≤M∧M≤c∧(mx.isSome=true→M=mm):=by
      cases mx with
      |none=>exact⟨c,rfl,by omega,Nat.le_refl _,fun h=>by cases h⟩
      |some a'=>
       refine⟨mm,?_,c3,by omega,fun _=>rfl⟩
       unfold Z7 at em ⊢
       cases a'<;>simp_all
     have hb:=X9 (P:=P) (w:=w) (ι:=ι) true 0 c lo hi mx vlo vhi vmx l hh M hlo hhi hmx el eh hM c1 hM2 hM3 c5
     have hl0:l=0:=by omega
     have hh0:hh=0:=by omega
     subst hl0;subst hh0
     cases a with
     |none=>
      have hc0:=hac rfl
      subst hc0
      have hM0:M=0:=by omega
      subst hM0
      refine⟨.slice none 0 0,?_,?_⟩
      ·simp only[Instr.sliceAt,Instr.slice,Sem.run_bind,run_underlying hd,Result.andThen_ok,hb,Z1 hei,hes,c6,Sem.run_pure,if_true,Nat.sub_self]
      ·cases mx with
       |none=>simp only[Option.some.injEq]at h;subst h;exact .vz _ _ _ hm (fun _=>rfl)
       |some a'=>
        simp only at h
        split at h
        ·cases h;exact .zs _ _
        ·cases h
     |some a=>
      refine⟨.slice (some (if M=0 then a else a.add (0*sz))) 0 M,?_,?_⟩
      ·simp only[Instr.sliceAt,Instr.slice,Sem.run_bind,run_underlying hd,Result.andThen_ok,hb,Z1 hei,hes,c6,Sem.run_pure,Nat.sub_zero]
       split<;>rfl
      ·cases mx with
       |none=>simp only[Option.some.injEq]at h;subst h;exact .vz _ _ _ (by omega) (fun h=>nomatch h)
       |some a'=>
        simp only at h
        split at h
        ·rename_i hz
         cases h
         have:=hM4 rfl
         obtain rfl:M=0:=by omega
         exact .zs _ _
        ·cases h
    obtain⟨g,o,c,cs,g1,g2,g3,g4,g5,rfl⟩:=hx.vs_rows hne
    obtain⟨M,hM,hM2,hM3,hM4⟩:∃M,Z7 mx c=some M∧hh≤M∧M≤c∧(mx.isSome=true→M=mm):=by
     cases mx with
     |none=>exact⟨c,rfl,by omega,Nat.le_refl _,fun h=>by cases h⟩
     |some a'=>
      refine⟨mm,?_,c3,by omega,fun _=>rfl⟩
      unfold Z7 at em ⊢
      cases a'<;>simp_all
    have hb:=X9 (P:=P) (w:=w) (ι:=ι) true rows.length c lo hi mx vlo vhi vmx l hh M hlo hhi hmx el eh hM c1 hM2 hM3 c5
    refine⟨.slice (some (if M=l then⟨g,o,none⟩else Addr.add ⟨g,o,none⟩ (l*sz))) (hh-l) (M-l),?_,?_⟩
    ·simp only[Instr.sliceAt,Instr.slice,Sem.run_bind,run_underlying hd,Result.andThen_ok,hb,Z1 hei,hes,c6,Sem.run_pure]
     split<;>rfl
    ·cases mx with
     |none=>
      simp only[Option.some.injEq]at h
      subst h
      have hlen:((rows.drop l).take (hh-l)).length=hh-l:=by simp;omega
      by_cases hml:M=l
      ·rw[if_pos hml]
       have e0:(rows.drop l).take (hh-l)=[]:=by rw[show hh-l=0 by omega];rfl
       rw[e0]
       have:=RelV.mk_vs (ι:=ι) (sz:=sz) (rows:=[]) (g:=g) (o:=o) (c:=M-l) g1 (Nat.zero_le _) (by omega) (by simp;omega) (fun k row hk=>by simp at hk)
       rw[show hh-l=([]:List (List AVal)).length by simp;omega]
       exact this
      ·rw[if_neg hml,Ze]
       have hmul:l*sz+(hh-l)*sz≤rows.length*sz:=by
        rw[←Nat.add_mul]
        exact Nat.mul_le_mul_right _ (by omega)
       have:=RelV.mk_vs (ι:=ι) (sz:=sz) (rows:=(rows.drop l).take (hh-l)) (g:=g) (o:=o+l*sz) (c:=M-l) g1 (by omega) (by omega) (by rw[hlen];omega) ((g5.drop l).take _)
       rw[hlen]at this
       exact this
     |some a'=>
      simp only at h
      split at h
      ·rename_i hz
       cases h
       have:=hM4 rfl
       rw[show hh-l=0 by omega,show M-l=0 by omega]
       exact .zs sz _
      ·cases h
   ·cases h
  ·cases h
 ·cases h
end
end Go.Av
end
end
section
set_option linter.unusedVariables false
set_option linter.unusedSimpArgs false
noncomputable section
namespace Go.Av
section
variable {P:Program} {tt:TT} {ι:Inj} {w:World} {H:Heap} {m:Nat}
theorem ZE{w:World}{g:Nat}{cs:Array Value}{e:TypeId}{fz:Nat×Nat}(h:w.heap[g]?=some (.cells cs e fz))(o:Nat):w.frozen? ⟨g,o,none⟩=(decide (fz.1≤o)&&decide (o<fz.2)):=by
 simp[World.frozen?,h]
theorem Be[Syms](htt:TT.ok P tt)(hH:RelH ι H w){t:TypeId}{x y:AVal}{v u:Value}{H':Heap}(hx:RelV ι x v)(hy:RelV ι y u)(h:JU tt H t x y=some H'):
 ∃w',(Instr.storeAt t v u).run P w= .ok () w'∧RelH ι H' w'∧Step ι H w ι H' w':=by
 unfold JU at h
 split at h
 ·rename_i n k j
  split at h
  ·rename_i rows ty hb hty
   obtain⟨d,i,hd,hi,hk,hsz,_⟩:=Qk htt hty
   split at h
   ·rename_i row hrow
    split at h
    ·rename_i hc
     obtain⟨c1,c2,c3⟩:=hc
     cases h
     obtain⟨L,hL,rfl⟩:=hx.of_ptr
     obtain⟨L',hL',hB⟩:=hH.blk n _ hb
     obtain rfl:L=L':=by rw[hL]at hL';exact Option.some.inj hL'
     obtain⟨cs,e,fz,h1,h2,h3,h4,h5⟩:=hB.rows
     obtain⟨hus,hone⟩:=hy.cells (by simpa[Qw]using c2)
     have hlen:u.cells.toList.length=y.cells.length:=hus.1.symm
     have hlen2:u.cells.size=y.cells.length:=by simpa using hlen
     have hkl:k<rows.length:=(List.getElem?_eq_some_iff.1 hrow).1
     have hks:=XJ (s:=L.size) hkl
     have hrl:=(h4 k row hrow).1
     have hf:=h5 rfl
     have hst:=Xi (P:=P) L.g (L.base+k*L.size+j) e fz u.cells.toList 0 cs w h1 (fun q hq=>hf q (by omega)) (by omega) hone
     simp only[Nat.add_zero]at hst
     have hg':=setRow_heap w L.g cs (cs.toList.take (L.base+k*L.size+j)++u.cells.toList++cs.toList.drop (L.base+k*L.size+j+u.cells.toList.length)).toArray e fz h1
     refine⟨_,?_,Up (w':=w.setRow L.g (cs.toList.take (L.base+k*L.size+j)++u.cells.toList++cs.toList.drop (L.base+k*L.size+j+u.cells.toList.length)).toArray) hH hb rfl hL (by simp) (fun g hg=>setRow_other w L.g g _ hg) rfl rfl rfl (Zf.mk hg' ?_ ?_ ?_ ?_ (hB.ty h1)) rfl⟩
     ·have hcs:u.cells.size=i.size:=by rw[hsz,←c1,←hlen];simp
      simp only[Instr.storeAt,Instr.sureAddr,Sem.run_bind,Sem.run_pure,Result.andThen_ok,storeVar,Z1 hi,hcs,ne_eq,not_true_eq_false,if_false]
      exact hst
     ·simp;omega
     ·simpa using h3
     ·exact h4.store hrow (by omega) hus hone (by omega)
     ·intro _ o ho
      have:=hf o ho
      rw[ZE h1]at this
      rw[ZE hg'];exact this
    ·cases h
   ·cases h
  ·cases h
 ·cases h
theorem Ks[Syms]{κ:Inj}{w w':World}{rows:List (List AVal)}{us:List Value}{cs:Array Value}{e:TypeId}{size:Nat}(hr:Qs κ rows.flatten us)(hl:∀r∈rows,r.length=size)
 (ho:∀u∈us,u.oneCell'=true) (hc:us <+:cs.toList) (hw:w'.heap=w.heap.push (.cells cs e)):Zf κ w' ⟨w.heap.size,0,size,cs.size,some e⟩ (.cells rows false):=by
 have hg:w'.heap[w.heap.size]?=some (.cells cs e (0,0)):=by rw[hw];simp
 have hfl:rows.flatten.length=rows.length*size:=by
  clear hr
  induction rows with
  |nil=>simp
  |cons r rs ih=>
   simp only[List.flatten_cons,List.length_append,List.length_cons,Nat.add_mul,Nat.one_mul]
   rw[ih (fun x hx=>hl x (by simp[hx])),hl r (by simp)]
   omega
 have hul:us.length≤cs.size:=by simpa using hc.length_le
 refine Zf.mk hg rfl ?_ ?_ ?_ ⟨fun t ht=>(Option.some.inj ht).symm,Nat.le_refl _⟩
 ·have:=hr.1
  simp only[Nat.zero_add]
  omega
 ·refine QE.of_flat hl hr (fun i u hu=>⟨?_,ho u (List.mem_of_getElem? hu)⟩)
  have hi:i<us.length:=(List.getElem?_eq_some_iff.1 hu).1
  rw[Nat.zero_add,←Array.getElem?_toList,←hu]
  obtain⟨r,hr'⟩:=hc
  rw[←hr',List.getElem?_append_left hi]
 ·intro _ o _
  rw[ZE hg]
  simp
theorem DM[Syms]{r:Result Next}{x:AVal}{v:Value}{rows:List (List AVal)}{us:List Value}{cs:Array Value}{e:TypeId}{size:Nat}{w':World}(hH:RelH ι H w)(hl:Kj ι w)(hm:ι m=none)
 (hr:Qs ι rows.flatten us) (hls:∀r∈rows,r.length=size) (ho:∀u∈us,u.oneCell'=true) (hc:us <+:cs.toList)
 (hw:w'.heap=w.heap.push (.cells cs e)) (hos:w'.os=w.os) (htape:w'.tape=w.tape) (hout:w'.output=w.output)
 (hrun:r= .ok (.value v) w') (hv:RelV (ι.put m ⟨w.heap.size,0,size,cs.size,some e⟩) x v):Out ι H w m (.new (.cells rows false) x) r:=
 Out.new hH hl hm hrun hw hos htape hout rfl (Ks (hr.mono (Inj.le_put _ hm)) hls ho hc hw) hv
theorem IF[Syms](hH:RelH ι H w)(hl:Kj ι w)(hm:ι m=none){x:AVal}{v:Value}{e:TypeId}(hx:Qs ι x.cells v.cells.toList∧ ∀u∈v.cells.toList,u.oneCell'=true){r:Result Next}
 (hr:r= .ok (.value (.pointer (some ⟨w.heap.size,0,none⟩))) {w with heap:=w.heap.push (.cells v.cells e)}):Out ι H w m (.new (.cells [x.cells] false) (.ptr m 0 0)) r:=by
 refine DM (size:=x.cells.length) (us:=v.cells.toList) (cs:=v.cells) (w':={w with heap:=w.heap.push (.cells v.cells e)}) hH hl hm (by simpa using hx.1) (by simp) hx.2 (List.prefix_refl _) rfl rfl rfl rfl hr ?_
 have:=RelV.ptr (ι:=ι.put m ⟨w.heap.size,0,x.cells.length,v.cells.size,some e⟩) m 0 0 _ (Inj.put_same _ _ _)
 simpa using this
theorem NE[Syms]{m:Nat}{e:TypeId}{L:Loc}(hL:ι m=some L)(ht:L.ty=some e∧L.base=0∧L.phys=L.size){cs:List AVal}{vs:List Value}(h:Qs ι cs vs):Qs ι (cs.map (OS m e)) vs:=by
 refine⟨by simpa using h.1,fun i c v hc hv=>?_⟩
 rw[List.getElem?_map,Option.map_eq_some_iff]at hc
 obtain⟨x,hx,rfl⟩:=hc
 have hr:=h.2 i x v hx hv
 cases hr<;>first|exact .tagp m e L hL ht|exact .tnils|(simp only[OS];constructor<;>assumption)
theorem CU[Syms]{tt:TT}{m:Nat}{e:TypeId}{L:Loc}(hL:ι m=some L)(ht:L.ty=some e∧L.base=0∧L.phys=L.size){cs:List AVal}{vs:List Value}(h:Qs ι cs vs):Qs ι (Jh tt m e cs) vs:=by
 unfold Jh
 split
 ·exact NE hL ht h
 ·exact h
theorem Fk{tt:TT}{m:Nat}{e:TypeId}{cs:List AVal}:(Jh tt m e cs).length=cs.length:=by
 unfold Jh
 split<;>simp
theorem ES[Syms]{tt:TT}(hH:RelH ι H w)(hl:Kj ι w)(hm:ι m=none){x:AVal}{v:Value}{e:TypeId}(hx:Qs ι x.cells v.cells.toList∧ ∀u∈v.cells.toList,u.oneCell'=true){r:Result Next}
 (hr:r= .ok (.value (.pointer (some ⟨w.heap.size,0,none⟩))) {w with heap:=w.heap.push (.cells v.cells e)}):Out ι H w m (.new (.cells [Jh tt m e x.cells] false) (.ptr m 0 0)) r:=by
 refine Out.new (w':={w with heap:=w.heap.push (.cells v.cells e)}) hH hl hm hr rfl rfl rfl rfl rfl (Ks (us:=v.cells.toList) (cs:=v.cells) (size:=x.cells.length) ?_ (by simp[Fk]) hx.2 (List.prefix_refl _) rfl) ?_
 ·simpa using CU (tt:=tt) (Inj.put_same ι m ⟨w.heap.size,0,x.cells.length,v.cells.size,some e⟩) ⟨rfl,rfl,by simpa using hx.1.1.symm⟩ (hx.1.mono (Inj.le_put _ hm))
 ·have:=RelV.ptr (ι:=ι.put m ⟨w.heap.size,0,x.cells.length,v.cells.size,some e⟩) m 0 0 _ (Inj.put_same _ _ _)
  simpa using this
theorem Wm(z:List AVal):∀n,(Qt z n).length=n*z.length
 |0=>by simp[Qt]
 |n+1=>by simp[Qt,Wm z n,Nat.add_mul,Nat.add_comm]
theorem GI[Syms]{zs:List AVal}{vs:List Value}(hz:Qs ι zs vs)(hpos:0<vs.length):∀n,Qs ι (Qt zs n) ((List.range (n*vs.length)).map fun i=>vs[i%vs.length]!)
 |0=>by simpa[Qt]using Qs.nil ι
 |n+1=>by
  have ih:=GI hz hpos n
  have e:(List.range ((n+1)*vs.length)).map (fun i=>vs[i%vs.length]!)=vs++(List.range (n*vs.length)).map fun i=>vs[i%vs.length]!:=by
   rw[show(n+1)*vs.length=vs.length+n*vs.length by rw[Nat.add_mul];omega,List.range_add,List.map_append]
   congr 1
   ·apply List.ext_getElem?
    intro i
    rw[List.getElem?_map]
    by_cases hi:i<vs.length
    ·rw[List.getElem?_range hi,List.getElem?_eq_getElem hi]
     simp[Nat.mod_eq_of_lt hi,hi]
    ·rw[List.getElem?_eq_none (by simp;omega),List.getElem?_eq_none (by omega)]
     rfl
   ·rw[List.map_map]
    apply List.map_congr_left
    intro i _
    simp
  rw[e]
  exact hz.append ih
theorem B1{vs:List Value}(hpos:0<vs.length)(h:∀u∈vs,u.oneCell'=true)(n:Nat):∀u∈(List.range n).map (fun i=>vs[i%vs.length]!),u.oneCell'=true:=by
 intro u hu
 obtain⟨i,_,rfl⟩:=List.mem_map.1 hu
 have:i%vs.length<vs.length:=Nat.mod_lt _ hpos
 rw[getElem!_pos vs _ this]
 exact h _ (List.getElem_mem _)
theorem FJ[Syms]{ρ:Operand→AVal}{σ:Operand→Value}(hev:∀x,RelV ι (ρ x) (σ x))(parts:List (Nat×Operand)):
 (parts.map fun p=>(p.1,ρ p.2)).length=(parts.map fun p=>(p.1,σ p.2)).length∧ ∀(i:Nat) (p:Nat×AVal) (q:Nat×Value),(parts.map fun p=>(p.1,ρ p.2))[i]?=some p→(parts.map fun p=>(p.1,σ p.2))[i]?=some q→p.1=q.1∧RelV ι p.2 q.2:=by
 refine⟨by simp,fun i p q hp hq=>?_⟩
 rw[List.getElem?_map,Option.map_eq_some_iff]at hp hq
 obtain⟨a,ha,rfl⟩:=hp
 obtain⟨b,hb,rfl⟩:=hq
 rw[ha]at hb
 cases hb
 exact⟨rfl,hev _⟩
end
end Go.Av
end
end
section
set_option linter.unusedVariables false
set_option linter.unusedSimpArgs false
noncomputable section
namespace Go.Av
section
variable {P:Program} {tt:TT} {ι:Inj} {w:World} {H:Heap} {m:Nat}
theorem U6[Syms](htt:TT.ok P tt):∀(fs:List Field),((fs.map fun f=>(f.offset,f.type)).all fun f=>(tt f.2).isSome)=true→
 ∃ps,fs.mapM (fun f=>(P.info? f.type).map fun i=>(f.offset,i.size))=some ps∧ ∀i:Nat,ps[i]?=Zq tt (fs.map fun f=>(f.offset,f.type)) i
 |[],_=>⟨[],rfl,fun i=>by simp[Zq]⟩
 |f::fs,h=>by
  simp only[List.map_cons,List.all_cons,Bool.and_eq_true]at h
  obtain⟨ps,h1,h2⟩:=U6 htt fs h.2
  obtain⟨ty,hty⟩:=Option.isSome_iff_exists.1 h.1
  obtain⟨d,i,hd,hi,hk,hsz,_⟩:=Qk htt hty
  refine⟨(f.offset,i.size)::ps,by simp[List.mapM_cons,hi,h1],fun k=>?_⟩
  cases k with
  |zero=>simp[Zq,hty,hsz]
  |succ k=>simpa[Zq]using h2 k
theorem Bq[Syms](htt:TT.ok P tt){ρ:Operand→AVal}{σ:Operand→Value}(hev:∀x,RelV ι (ρ x) (σ x)){t:TypeId}{parts:Array (Nat×Operand)}{z:AVal}
 (h:G0 tt t (parts.toList.map fun p=>(p.1,ρ p.2))=some z):∃r,(Instr.build t (parts.map fun(i,x)=>(i,σ x))).run P w= .ok r w∧RelV ι z r:=by
 have hp:=FJ hev parts.toList
 have hmap:(parts.map fun(i,x)=>(i,σ x)).toList=parts.toList.map fun p=>(p.1,σ p.2):=by simp
 unfold G0 at h
 split at h
 ·rename_i fs sz by' zs hty
  obtain⟨d,i,hd,hi,hk,hsz,_,hz,_⟩:=Qk htt hty
  obtain⟨gs,rfl,rfl⟩:=(Qg hk).2.2.2.2.2.2 _ rfl
  split at h
  ·rename_i hc
   obtain⟨c1,c2⟩:=hc
   rw[Option.map_eq_some_iff]at h
   obtain⟨row,hrow,rfl⟩:=h
   obtain⟨z,hz1,hz2⟩:=hz.resolve_right (by simp)
   obtain⟨hrel,hone⟩:=Zy (x:=.agg zs) hz2 c2 ι
   obtain⟨ps,hps,hpl⟩:=U6 htt gs.toList c1
   obtain⟨us',h1,h2,h3⟩:=Ub (ι:=ι) (Zq tt (gs.toList.map fun f=>(f.offset,f.type))) _ _ zs row z.cells.toList hp.1 hp.2 hrel hone hrow
   refine⟨.agg ⟨us'⟩,?_,.mk_agg h2⟩
   have hfun:(fun(i:Nat)=>ps.toArray[i]?)=Zq tt (gs.toList.map fun f=>(f.offset,f.type)):=funext fun i=>by simpa using hpl i
   refine run_build w t _ _ ?_
   simp only[Program.built,hi,hd,hz1,hps,hfun,hmap]
   exact h1
  ·cases h
 ·rename_i fs sz by' zs hty
  obtain⟨d,i,hd,hi,hk,hsz,_,hz,_⟩:=Qk htt hty
  obtain⟨gs,rfl,rfl⟩:=(Qg hk).2.2.2.2.2.2 _ rfl
  split at h
  ·rename_i hc
   obtain⟨c1,c2⟩:=hc
   rw[Option.map_eq_some_iff]at h
   obtain⟨row,hrow,rfl⟩:=h
   obtain⟨z,hz1,hz2⟩:=hz.resolve_right (by simp)
   obtain⟨hrel,hone⟩:=Zy (x:=.agg zs) (BA hz2) c2 ι
   obtain⟨ps,hps,hpl⟩:=U6 htt gs.toList c1
   obtain⟨us',h1,h2,h3⟩:=Ub (ι:=ι) (Zq tt (gs.toList.map fun f=>(f.offset,f.type))) _ _ zs row z.cells.toList hp.1 hp.2 hrel hone hrow
   refine⟨.agg ⟨us'⟩,?_,.mk_agg h2⟩
   have hfun:(fun(i:Nat)=>ps.toArray[i]?)=Zq tt (gs.toList.map fun f=>(f.offset,f.type)):=funext fun i=>by simpa using hpl i
   refine run_build w t _ _ ?_
   simp only[Program.built,hi,hd,hz1,hps,hfun,hmap]
   exact h1
  ·cases h
 ·rename_i n e sz by' zs hty
  obtain⟨d,i,hd,hi,hk,hsz,_,hz,_⟩:=Qk htt hty
  obtain rfl:=(Qg hk).2.2.2.2.1 _ _ rfl
  split at h
  ·rename_i ety hety
   obtain⟨ed,ei,hed,hei,hek,hes,_⟩:=Qk htt hety
   split at h
   ·rename_i c2
    rw[Option.map_eq_some_iff]at h
    obtain⟨row,hrow,rfl⟩:=h
    obtain⟨z,hz1,hz2⟩:=hz.resolve_right (by simp)
    obtain⟨hrel,hone⟩:=Zy (x:=.agg zs) hz2 c2 ι
    obtain⟨us',h1,h2,h3⟩:=Ub (ι:=ι) (fun i=>some (i*ety.size,ety.size)) _ _ zs row z.cells.toList hp.1 hp.2 hrel hone hrow
    refine⟨.agg ⟨us'⟩,?_,.mk_agg h2⟩
    refine run_build w t _ _ ?_
    simp only[Program.built,hi,hd,hz1,hei,hmap,hes]
    exact h1
   ·cases h
  ·cases h
 ·cases h
end
end Go.Av
end
end
section
set_option linter.unusedVariables false
set_option linter.unusedSimpArgs false
noncomputable section
namespace Go.Av
section
variable {P:Program} {tt:TT} {ι:Inj} {w:World} {H:Heap} {m:Nat}
theorem B2(z:Array Value)(n s:Nat):(Array.range n).map (z[· %s]!)=((List.range n).map fun i=>z.toList[i%s]!).toArray:=by
 apply Array.ext'
 simp only[Array.toList_map,Array.toList_range]
 apply List.map_congr_left
 intro i _
 obtain⟨l⟩:=z
 rw[List.getElem!_eq_getElem?_getD,Array.getElem!_eq_getD,Array.getD_eq_getD_getElem?]
 simp
theorem K0(n:Nat)(hn:n=0)(f:Nat→Value):(Array.range n).map f= #[]:=by
 subst hn
 apply Array.ext'
 simp
theorem Jb[Syms](htt:TT.ok P tt)(hH:RelH ι H w)(hl:Kj ι w)(hm:ι m=none){ρ:Operand→AVal}{σ:Operand→Value}(hev:∀x,RelV ι (ρ x) (σ x)){t:TypeId}{len:Nat}{parts:Array (Nat×Operand)}{r:Res}
 (h:XV tt m t len (parts.toList.map fun p=>(p.1,ρ p.2))=some r):
 Out ι H w m r ((do let v←Instr.buildSlice t len (parts.map fun(i,x)=>(i,σ x));pure (.value v):Sem Next).run P w):=by
 have hp:=FJ hev parts.toList
 have hmap:(parts.map fun(i,x)=>(i,σ x)).toList=parts.toList.map fun p=>(p.1,σ p.2):=by simp
 unfold XV at h
 split at h
 ·rename_i e sz by' zz hty
  obtain⟨d,i,hd,hi,hk,hsz,_,hz,_⟩:=Qk htt hty
  obtain rfl:=(Qg hk).2.2.2.1 _ rfl
  split at h
  ·rename_i ety hety
   obtain⟨ed,ei,hed,hei,hek,hes,_,hez,_⟩:=Qk htt hety
   split at h
   ·rename_i hc
    obtain⟨c1,c2,c3,c4⟩:=hc
    rw[Option.map_eq_some_iff]at h
    obtain⟨row,hrow,rfl⟩:=h
    obtain⟨z,hz1,hz2⟩:=hez.resolve_right (fun e=>by rw[e]at c3;simp[AVal.cells,Qw,AVal.leaf]at c3)
    obtain⟨hrel,hone⟩:=Zy hz2 c3 ι
    have hzl:z.cells.toList.length=ety.size:=by rw[←hrel.1,c2]
    have hzs:z.cells.size=ety.size:=by simpa using hzl
    have hcyc:=GI hrel (by omega) len
    have hcone:=B1 (by omega) hone (len*z.cells.toList.length)
    rw[hzl]at hcyc hcone
    obtain⟨us',h1,h2,h3⟩:=Ub (ι:=ι) (fun i=>some (i*ety.size,ety.size)) _ _ _ row _ hp.1 hp.2 hcyc hcone hrow
    have hrl:row.length=len*ety.size:=by rw[J8 _ _ _ _ hrow,Wm,c2]
    obtain⟨f1,f2,f3⟩:=KV ety.size len row hrl
    have hfill:Instr.fill (fun i=>some (i*ei.size,ei.size)) ((Array.range (len*ei.size)).map (z.cells[· %z.cells.size]!)) (parts.map fun(i,x)=>(i,σ x)).toList=some us'.toArray:=by
     rw[hmap,hes,←h1,B2,hzs]
    have hus:us'.length=len*ety.size:=by rw[←h2.1,hrl]
    have hrun:(Instr.buildSlice t len (parts.map fun(i,x)=>(i,σ x))).run P w= .ok (.slice (some ⟨w.heap.size,0,none⟩) len len) {w with heap:=w.heap.push (.cells us'.toArray e)}:=by
     by_cases h0:len*ei.size=0
     ·have hlen:len=0:=by
       rcases Nat.eq_zero_or_pos len with h|h
       ·exact h
       ·have:=Nat.mul_pos h (by omega:0<ei.size);omega
      rw[K0 _ h0]at hfill
      simp only[Instr.buildSlice,Sem.run_bind,run_underlying hd,Result.andThen_ok,Z1 hei,h0,show ¬(0:Nat)>2^24 from by decide,if_false,if_true,Sem.run_pure,K0 0 rfl,hfill,newRow,run_newObj]
     ·have hsmall:¬len*ei.size>2^24:=by rw[hes];omega
      simp only[Instr.buildSlice,Sem.run_bind,run_underlying hd,Result.andThen_ok,Z1 hei,hsmall,if_false,h0,Dr hei hz1,Sem.run_pure,hfill,newRow,run_newObj]
    refine DM (size:=ety.size) (us:=us') (cs:=us'.toArray) (e:=e) (w':={w with heap:=w.heap.push (.cells us'.toArray e)}) hH hl hm (by rw[f1];exact h2) f2 h3 (List.prefix_refl _) rfl rfl rfl rfl
     (v:=.slice (some ⟨w.heap.size,0,none⟩) len len) (by simp only[Sem.run_bind,hrun,Result.andThen_ok,Sem.run_pure]) ?_
    refine .slice m 0 len ety.size (some len) _ _ len (Inj.put_same _ _ _) rfl (.inr (by simp)) (Nat.le_refl _) (by simp[hus]) ?_ (fun k hk=>by cases hk;rfl)
    have:len≤len*ety.size:=Nat.le_mul_of_pos_right _ c1
    simp only[maxLen];omega
   ·cases h
  ·cases h
 ·cases h
theorem JW[Syms](htt:TT.ok P tt)(hH:RelH ι H w)(hl:Kj ι w)(hm:ι m=none){t:TypeId}{x y:AVal}{v u:Value}{r:Res}(hx:RelV ι x v)(hy:RelV ι y u)
 (h:WD tt m t x y=some r):Out ι H w m r ((do let v←Instr.makeSlice t v u;pure (.value v):Sem Next).run P w):=by
 unfold WD at h
 split at h
 ·rename_i e _ _ _ k1 l k2 c hty
  obtain⟨d,i,hd,hi,hk,hsz,_,hz,_⟩:=Qk htt hty
  obtain rfl:=(Qg hk).2.2.2.1 _ rfl
  split at h
  ·rename_i ety hety
   obtain⟨ed,ei,hed,hei,hek,hes,heb,hez,_⟩:=Qk htt hety
   split at h
   ·rename_i hc
    obtain⟨c1,c2,c3,c4,c5,c6,c7⟩:=hc
    cases h
    obtain rfl:=hx.of_int
    obtain rfl:=hy.of_int
    obtain⟨z,hz1,hz2⟩:=hez.resolve_right (fun e=>by rw[e]at c3;simp[AVal.cells,Qw,AVal.leaf]at c3)
    obtain⟨hrel,hone⟩:=Zy hz2 c3 ι
    have hzl:z.cells.toList.length=ety.size:=by rw[←hrel.1,c2]
    have hzs:z.cells.size=ety.size:=by simpa using hzl
    have hcyc:=GI hrel (by omega) c.toNat
    have hcone:=B1 (by omega) hone (c.toNat*z.cells.toList.length)
    rw[hzl]at hcyc hcone
    have hrep:(List.replicate c.toNat ety.zero.cells).flatten=Qt ety.zero.cells c.toNat:=by
     generalize c.toNat=n
     induction n with
     |zero=>rfl
     |succ n ih=>simp[List.replicate_succ,Qt,ih]
    have hwl:IntKind.i64.wrap l=l:=IntWalk.i64_in l (by omega)
    have hwc:IntKind.i64.wrap c=c:=IntWalk.i64_in c (by omega)
    have hcs:(((Array.range (c.toNat*ei.size)).map (z.cells[· %z.cells.size]!)):Array Value)=((List.range (c.toNat*ety.size)).map fun i=>z.cells.toList[i%ety.size]!).toArray:=by
     rw[B2,hzs,hes]
    have hrun:(Instr.makeSlice t (.int k1 l) (.int k2 c)).run P w= .ok (.slice (some ⟨w.heap.size,0,none⟩) l.toNat c.toNat) {w with heap:=w.heap.push (.cells ((List.range (c.toNat*ety.size)).map fun i=>z.cells.toList[i%ety.size]!).toArray e)}:=by
     have t1:¬c<0:=by omega
     have t2:¬l<0:=by omega
     have t3:¬l>c:=by omega
     have t4:¬((ety.bytes:Int)*c>2^48):=by rw[Int.mul_comm];omega
     by_cases h0:c.toNat*ei.size=0
     ·have hc0:c.toNat=0:=by
       rcases Nat.eq_zero_or_pos c.toNat with h|h
       ·exact h
       ·have:=Nat.mul_pos h (by omega:0<ei.size);omega
      have e1:((List.range (c.toNat*ety.size)).map fun i=>z.cells.toList[i%ety.size]!).toArray= #[]:=by rw[hc0,Nat.zero_mul];rfl
      rw[e1]
      simp only[Instr.makeSlice,Sem.run_bind,run_underlying hd,Result.andThen_ok,asInt,asIntOf,Sem.run_pure,HE hei,hwl,hwc,heb,t1,t2,t3,t4,decide_false,Bool.or_false,Bool.false_eq_true,if_false,run_askRoom,Z1 hei,h0,if_true,K0 0 rfl,newRow,run_newObj]
     ·simp only[Instr.makeSlice,Sem.run_bind,run_underlying hd,Result.andThen_ok,asInt,asIntOf,Sem.run_pure,HE hei,hwl,hwc,heb,t1,t2,t3,t4,decide_false,Bool.or_false,Bool.false_eq_true,if_false,run_askRoom,Z1 hei,h0,Dr hei hz1,hcs,newRow,run_newObj]
    refine DM (size:=ety.size) (us:=(List.range (c.toNat*ety.size)).map fun i=>z.cells.toList[i%ety.size]!) (cs:=((List.range (c.toNat*ety.size)).map fun i=>z.cells.toList[i%ety.size]!).toArray) (e:=e) (w':={w with heap:=w.heap.push (.cells ((List.range (c.toNat*ety.size)).map fun i=>z.cells.toList[i%ety.size]!).toArray e)}) hH hl hm (by rw[hrep];exact hcyc) (fun r hr=>by rw[(List.mem_replicate.1 hr).2,c2]) hcone (List.prefix_refl _) rfl rfl rfl rfl
     (v:=.slice (some ⟨w.heap.size,0,none⟩) l.toNat c.toNat) (by simp only[Sem.run_bind,hrun,Result.andThen_ok,Sem.run_pure]) ?_
    refine .slice m 0 l.toNat ety.size (some c.toNat) _ _ c.toNat (Inj.put_same _ _ _) rfl (.inr (by simp)) (by omega) (by simp) ?_ (fun k hk=>by cases hk;rfl)
    simp only[maxLen];omega
   ·cases h
  ·cases h
 ·cases h
end
end Go.Av
end
end
section
set_option linter.unusedVariables false
set_option linter.unusedSimpArgs false
noncomputable section
namespace Go.Av
section
variable {P:Program} {tt:TT} {ι:Inj} {w:World} {H:Heap} {m:Nat}
theorem XL[Syms](hH:RelH ι H w){n off len sz:Nat}{cap:Option Nat}{v:Value}{rows:List (List AVal)}(hx:RelV ι (.slice n off len sz cap) v)(h:QH H (.slice n off len sz cap)=some rows):
 rows.length=len∧(∀r∈rows,r.length=sz)∧ ∃a c us,v= .slice (some a) len c∧Qs ι rows.flatten us∧us.length=len*sz∧(∀u∈us,u.oneCell'=true)∧ ∀j u,us[j]?=some u→w.cell? (a.add j)=some u:=by
 obtain⟨L,a,c,hL,hs,ha,hl,hp,hm,hcap,rfl⟩:=hx.of_slice
 simp only[QH]at h
 split at h
 ·rename_i all ro hb
  split at h
  ·rename_i hle
   cases h
   obtain⟨L',hL',hB⟩:=hH.blk n _ hb
   obtain rfl:L=L':=by rw[hL]at hL';exact Option.some.inj hL'
   obtain⟨cs,e,fz,h1,h2,h3,h4,h5⟩:=hB.rows
   have h6:=(h4.drop off).take len
   have hlen:((all.drop off).take len).length=len:=by simp;omega
   obtain⟨us,h7,h8,h9⟩:=h6.flat
   refine⟨hlen,fun r hr=>?_,a,c,us,rfl,h7,by rw[h8,hlen,hs],fun u hu=>?_,fun j u hj=>?_⟩
   ·obtain⟨k,hk⟩:=List.mem_iff_getElem?.1 hr
    rw[←hs]
    exact(h6 k r hk).1
   ·obtain⟨k,hk⟩:=List.mem_iff_getElem?.1 hu
    exact(h9 k u hk).2
   ·have hc0:¬c=0:=by
     have:j<us.length:=(List.getElem?_eq_some_iff.1 hj).1
     rw[h8,hlen]at this
     rcases Nat.eq_zero_or_pos len with e|e
     ·rw[e]at this;simp at this
     ·omega
    rw[ha.resolve_left hc0,Ze,cell_of_row w L.g _ cs e fz h1]
    exact(h9 j u hj).1
  ·cases h
 ·cases h
theorem Bw[Syms](hH:RelH ι H w){sz:Nat}{v:Value}{rows:List (List AVal)}(hx:RelV ι (.vs sz rows) v)(hne:rows≠[]):
 (∀r∈rows,r.length=sz)∧ ∃a c us,v= .slice (some a) rows.length c∧Qs ι rows.flatten us∧us.length=rows.length*sz∧(∀u∈us,u.oneCell'=true)∧ ∀j u,us[j]?=some u→w.cell? (a.add j)=some u:=by
 obtain⟨g,o,c,cs,g1,g2,g3,g4,g5,rfl⟩:=hx.vs_rows hne
 obtain⟨⟨e,z,hw⟩,_⟩:=hH.fz g cs g1
 obtain⟨us,h7,h8,h9⟩:=g5.flat
 refine⟨fun r hr=>?_,⟨g,o,none⟩,c,us,rfl,h7.mono ι.bare_le,h8,fun u hu=>?_,fun j u hj=>?_⟩
 ·obtain⟨k,hk⟩:=List.mem_iff_getElem?.1 hr
  exact(g5 k r hk).1
 ·obtain⟨k,hk⟩:=List.mem_iff_getElem?.1 hu
  exact(h9 k u hk).2
 ·rw[Ze,cell_of_row w g _ cs e z hw]
  exact(h9 j u hj).1
theorem Kc:∀{rows:List (List AVal)} {s:List UInt8},X4 rows=some s→ ∃ns:List Int,rows=ns.map (fun n=>[AVal.int .u8 n])∧s=ns.map fun n=>UInt8.ofNat n.toNat
 |[],s,h=>by simp[X4]at h;subst h;exact⟨[],rfl,rfl⟩
 |r::rows,s,h=>by
  simp only[X4]at h
  split at h
  ·rename_i b bs hb hbs
   cases h
   obtain⟨ns,h1,h2⟩:=Kc hbs
   unfold JT at hb
   split at hb
   ·rename_i n
    cases hb
    exact⟨n::ns,by simp[h1],by simp[h2]⟩
   ·cases hb
  ·cases h
theorem ME[Syms]{k:IntKind}:∀{ns:List Int} {us:List Value},Qs ι (ns.map (fun n=>[AVal.int k n])).flatten us→us=ns.map (Value.int k)
 |[],us,h=>h.unnil
 |n::ns,us,h=>by
  simp only[List.map_cons,List.flatten_cons,List.singleton_append]at h
  obtain⟨v,us',rfl,h1,h2⟩:=h.uncons
  obtain rfl:=h1.of_int
  rw[ME h2]
  rfl
theorem Ja[Syms](htt:TT.ok P tt)(hH:RelH ι H w){src dst e:TypeId}{x:AVal}{v:Value}{r:Res}(hd1:P.underlying src=some (.slice e))(hd2:P.underlying dst=some .string)(hx:RelV ι x v)(h:YT tt H e x=some r):
 Out ι H w m r ((do let v←convert src dst v;pure (.value v):Sem Next).run P w):=by
 unfold YT at h
 split at h
 ·rename_i _ _ _ he
  obtain⟨d3,i3,hd3,_,hk3,_⟩:=Qk htt he
  obtain rfl:=(Qg hk3).1 _ rfl
  cases x with
  |nils=>
   simp only[Option.some.injEq]at h
   subst h
   cases hx
   refine Out.val (v:=.string ⟨⟨[]⟩⟩) hH ?_ (.str _)
   simp only[Sem.run_bind,run_convert_bytes_string w _ _ _ none 0 0 hd1 hd3 hd2,Conv.bytesToString,Sem.run_pure,Result.andThen_ok]
   rfl
  |slice n off len sz cap=>
   simp only at h
   cases hrows:QH H (.slice n off len sz cap)with
   |none=>rw[hrows]at h;cases h
   |some rows=>
    rw[hrows]at h
    simp only[Option.map_eq_some_iff]at h
    obtain⟨s,hs',rfl⟩:=h
    obtain⟨h1,h2,a,c,us,rfl,h3,h4,h5,h6⟩:=XL hH hx hrows
    obtain⟨ns,rfl,rfl⟩:=Kc hs'
    obtain rfl:=ME h3
    have hn:(ns.map (Value.int .u8)).length=len:=by simpa using h1
    have hload:=run_loadCells_list (P:=P) w a _ h6
    rw[hn]at hload
    refine Out.val (v:=.string ⟨⟨ns.map fun n=>UInt8.ofNat n.toNat⟩⟩) hH ?_ (.str _)
    simp only[Sem.run_bind,run_convert_bytes_string w _ _ _ (some a) len c hd1 hd3 hd2,run_bytesToString w a len c ns hload,Result.andThen_ok,Sem.run_pure]
    rw[foldl_push_bytes]
    simp
  |vs sz rows=>
   simp only[Option.map_eq_some_iff]at h
   obtain⟨s,hs',rfl⟩:=h
   by_cases hne:rows=[]
   ·subst hne
    cases hs'
    obtain⟨a,c,hm,hac,rfl⟩:=hx.of_vz
    refine Out.val (v:=.string ⟨⟨[]⟩⟩) hH ?_ (.str _)
    cases a with
    |none=>
     simp only[Sem.run_bind,run_convert_bytes_string w _ _ _ none 0 c hd1 hd3 hd2,Conv.bytesToString,Sem.run_pure,Result.andThen_ok]
     rfl
    |some a=>
     have hload:=run_loadCells_list (P:=P) w a [] (fun j u hj=>by simp at hj)
     simp only[Sem.run_bind,run_convert_bytes_string w _ _ _ (some a) 0 c hd1 hd3 hd2,run_bytesToString w a 0 c [] hload,Result.andThen_ok,Sem.run_pure]
     rfl
   obtain⟨h2,a,c,us,rfl,h3,h4,h5,h6⟩:=Bw hH hx hne
   obtain⟨ns,rfl,rfl⟩:=Kc hs'
   obtain rfl:=ME h3
   have hn:(ns.map (Value.int .u8)).length=(ns.map fun n=>[AVal.int .u8 n]).length:=by simp
   have hload:=run_loadCells_list (P:=P) w a _ h6
   rw[hn]at hload
   refine Out.val (v:=.string ⟨⟨ns.map fun n=>UInt8.ofNat n.toNat⟩⟩) hH ?_ (.str _)
   simp only[Sem.run_bind,run_convert_bytes_string w _ _ _ (some a) _ c hd1 hd3 hd2,run_bytesToString w a _ c ns hload,Result.andThen_ok,Sem.run_pure]
   rw[foldl_push_bytes]
   simp
  |_=>cases h
 ·cases h
theorem BL[Syms]{κ:Inj}{w w':World}{rows:List (List AVal)}{us:List Value}{cs:Array Value}{e:TypeId}{size:Nat}{fz:Nat×Nat}(hr:Qs κ rows.flatten us)(hl:∀r∈rows,r.length=size)
 (ho:∀u∈us,u.oneCell'=true) (hc:us <+:cs.toList) (hf:∀o,o<cs.size→(decide (fz.1≤o)&&decide (o<fz.2))=false) (hz:fz.1≤fz.2) (hw:w'.heap=w.heap.push (.cells cs e fz)):Zf κ w' ⟨w.heap.size,0,size,cs.size,some e⟩ (.cells rows false):=by
 have hg:w'.heap[w.heap.size]?=some (.cells cs e fz):=by rw[hw];simp
 have hg':(World.mk (w.heap.push (.cells cs e)) w.tape w.drawn w.os w.output).heap[w.heap.size]?=some (.cells cs e (0,0)):=by simp
 obtain⟨cs',e',fz',h1,h2,h3,h4,h5⟩:=(Ks (w':=⟨w.heap.push (.cells cs e),w.tape,w.drawn,w.os,w.output⟩) hr hl ho hc rfl).rows
 simp only at h1 h2 h3 h4
 rw[hg']at h1
 cases h1
 refine Zf.mk hg rfl h3 h4 ?_ ⟨fun t ht=>(Option.some.inj ht).symm,hz⟩
 intro _ o hlt
 rw[ZE hg]
 exact hf o hlt
theorem Eh[Syms]{r:Result Next}{x:AVal}{v:Value}{rows:List (List AVal)}{us:List Value}{cs:Array Value}{e:TypeId}{size:Nat}{w':World}{fz:Nat×Nat}(hH:RelH ι H w)(hl:Kj ι w)(hm:ι m=none)
 (hr:Qs ι rows.flatten us) (hls:∀r∈rows,r.length=size) (ho:∀u∈us,u.oneCell'=true) (hc:us <+:cs.toList) (hf:∀o,o<cs.size→(decide (fz.1≤o)&&decide (o<fz.2))=false) (hz:fz.1≤fz.2)
 (hw:w'.heap=w.heap.push (.cells cs e fz)) (hos:w'.os=w.os) (htape:w'.tape=w.tape) (hout:w'.output=w.output)
 (hrun:r= .ok (.value v) w') (hv:RelV (ι.put m ⟨w.heap.size,0,size,cs.size,some e⟩) x v):Out ι H w m (.new (.cells rows false) x) r:=
 Out.new hH hl hm hrun hw hos htape hout rfl (BL (hr.mono (Inj.le_put _ hm)) hls ho hc hf hz hw) hv
theorem Fb[Syms](htt:TT.ok P tt)(hH:RelH ι H w)(hl:Kj ι w)(hm:ι m=none){src dst:TypeId}{x:AVal}{v:Value}{r:Res}(hx:RelV ι x v)(h:YS tt H m src dst x=some r):
 Out ι H w m r ((do let v←convert src dst v;pure (.value v):Sem Next).run P w):=by
 unfold YS at h
 split at h
 ·rename_i sty k _ _ _ k' n hs hd
  obtain⟨d1,i1,hd1,_⟩:=Qk htt hs
  obtain⟨d2,i2,hd2,_,hk2,_⟩:=Qk htt hd
  obtain rfl:=(Qg hk2).1 _ rfl
  cases h
  obtain rfl:=hx.of_int
  refine Out.val (v:=.int k (k.wrap n)) hH ?_ (by rw[GM];exact .int _ _)
  simp only[convert,Sem.run_bind,run_underlying hd1,run_underlying hd2,Result.andThen_ok,Conv.intToInt,Sem.run_pure]
 ·rename_i sty _ _ _ s hs hd
  obtain⟨d1,i1,hd1,_⟩:=Qk htt hs
  obtain⟨d2,i2,hd2,_,hk2,_⟩:=Qk htt hd
  obtain rfl:=(Qg hk2).2.2.1 rfl
  cases h
  cases hx
  refine Out.val (v:=.string ⟨⟨s⟩⟩) hH ?_ (.str _)
  simp only[convert,Sem.run_bind,run_underlying hd1,run_underlying hd2,Result.andThen_ok,Sem.run_pure]
 ·rename_i sty _ _ _ k n hs hd
  obtain⟨d1,i1,hd1,_⟩:=Qk htt hs
  obtain⟨d2,i2,hd2,_,hk2,_⟩:=Qk htt hd
  obtain rfl:=(Qg hk2).2.2.1 rfl
  cases h
  obtain rfl:=hx.of_int
  refine Out.val (v:=.string (Utf8.encode n)) hH ?_ ?_
  ·simp only[convert,Sem.run_bind,run_underlying hd1,run_underlying hd2,Result.andThen_ok,Conv.intToString,Sem.run_pure]
  ·have:=RelV.str (ι:=ι) (Utf8.encode n).data.toList
   simpa using this
 ·rename_i sty e _ _ _ s hs hd
  obtain⟨d1,i1,hd1,_⟩:=Qk htt hs
  obtain⟨d2,i2,hd2,_,hk2,_⟩:=Qk htt hd
  obtain rfl:=(Qg hk2).2.2.2.1 _ rfl
  split at h
  ·rename_i _ _ _ he
   obtain⟨d3,i3,hd3,_,hk3,_⟩:=Qk htt he
   obtain rfl:=(Qg hk3).1 _ rfl
   split at h
   rotate_left
   ·cases h
   rename_i hc
   cases h
   cases hx
   have hcap:=grownCap_ge w s.length 0 e
   have hcm:grownCap w s.length 0 e≤maxLen:=by
    have hlt:=Nat.mod_lt (w.tape w.drawn (.appendCap s.length 0 e)) (show 0<2^63-s.length by simp only[maxLen]at *;omega)
    simp only[grownCap,Question.cut,maxLen]at *
    omega
   have hcs:(((s.map fun b=>Value.int .u8 b.toNat).toArray++Array.replicate (grownCap w s.length 0 e-s.length) (.int .u8 0):Array Value)).size=grownCap w s.length 0 e:=by simp;omega
   generalize hcsd:((s.map fun b=>Value.int .u8 b.toNat).toArray++Array.replicate (grownCap w s.length 0 e-s.length) (.int .u8 0):Array Value)=cs at hcs
   have hpre:(s.map fun b=>Value.int .u8 b.toNat) <+:cs.toList:=by
    rw[←hcsd]
    simp
   have hrel:Qs ι ((s.map fun b=>[AVal.int .u8 b.toNat]).flatten) (s.map fun b=>Value.int .u8 b.toNat):=by
    clear hpre hcsd hcs hcm hcap hc
    induction s with
    |nil=>exact .nil ι
    |cons b s ih=>exact .cons (.int _ _) ih
   have hconv:(convert src dst (.string ⟨⟨s⟩⟩)).run P w= .ok (.slice (some ⟨w.heap.size,0,none⟩) s.length cs.size) {w with drawn:=w.drawn+1,heap:=w.heap.push (.cells cs e (cs.size,cs.size+1))}:=by
    have hel:((⟨⟨s⟩⟩:ByteArray).data.map fun b=>Value.int .u8 b.toNat)=(s.map fun b=>Value.int .u8 b.toNat).toArray:=by
     apply Array.ext'
     simp
    have hg:(Question.appendCap s.length 0 e).cut (w.tape w.drawn (.appendCap s.length 0 e))=grownCap w s.length 0 e:=rfl
    simp only[convert,Sem.run_bind,run_underlying hd1,run_underlying hd2,run_underlying hd3,Result.andThen_ok,Conv.stringToBytes,run_choose,Question.forced,Bool.false_eq_true,if_false,J2,hg,hel,hcsd,newRow,run_newObj,Sem.run_pure,markStringish,run_shape,World.shape?,
     Array.getElem?_push_size,run_freeze,World.freeze,hcs]
    simp only[Nat.one_ne_zero,if_false]
    congr 2
    apply Array.ext
    ·simp
    ·intro i h1 h2
     simp only[Array.getElem_modify,Array.getElem_push]
     by_cases hi:w.heap.size=i
     ·subst hi;simp
     ·have:i<w.heap.size:=by simp at h1;omega
      rw[if_neg hi]
      simp[this]
   refine Eh (size:=1) (us:=s.map fun b=>.int .u8 b.toNat) (cs:=cs) (e:=e) (fz:=(cs.size,cs.size+1)) (w':={w with drawn:=w.drawn+1,heap:=w.heap.push (.cells cs e (cs.size,cs.size+1))}) hH hl hm hrel (by simp) (by simp[Value.oneCell']) hpre (fun o ho=>by simp;omega) (Nat.le_succ _) rfl rfl rfl rfl
    (v:=.slice (some ⟨w.heap.size,0,none⟩) s.length cs.size) (by simp only[Sem.run_bind,hconv,Result.andThen_ok,Sem.run_pure]) ?_
   exact .slice m 0 s.length 1 none _ _ cs.size (Inj.put_same _ _ _) rfl (.inr (by simp)) (by omega) (by simp) (by omega) (fun k hk=>by cases hk)
  ·cases h
 ·rename_i e _ _ _ _ _ _ hs hd _ _
  obtain⟨d1,i1,hd1,_,hk1,_⟩:=Qk htt hs
  obtain⟨d2,i2,hd2,_,hk2,_⟩:=Qk htt hd
  obtain rfl:=(Qg hk1).2.2.2.1 _ rfl
  obtain rfl:=(Qg hk2).2.2.1 rfl
  exact Ja htt hH hd1 hd2 hx h
 ·rename_i e _ _ _ e' _ _ _ n off len sz cap hs hd
  obtain⟨d1,i1,hd1,_,hk1,_⟩:=Qk htt hs
  obtain rfl:=(Qg hk1).2.2.2.1 _ rfl
  split at h
  ·rename_i _ _ _ rows he hb
   split at h
   ·rename_i hc
    obtain⟨hsd,hlen⟩:=hc
    obtain rfl:=Nat.eq_of_beq_eq_true hsd
    cases h
    obtain⟨d3,i3,hd3,_,hk3,_⟩:=Qk htt he
    obtain rfl:=(Qg hk3).1 _ rfl
    obtain⟨L,a,c,hL,hs',ha,hl',hp,hmm,hcap,rfl⟩:=hx.of_slice
    obtain⟨L',hL',hB⟩:=hH.blk n _ hb
    obtain rfl:L=L':=by rw[hL]at hL';exact Option.some.inj hL'
    have hty:=fun cs e fz hg=>hB.ty (cs:=cs) (e:=e) (fz:=fz) hg
    obtain⟨cs,et,fz,h1,h2,h3,h4,h5⟩:=hB.rows
    obtain⟨t1,t2⟩:=hty _ _ _ h1
    obtain rfl:=ha.resolve_left (by omega)
    obtain⟨fz',hz1,hz2,hz3⟩:∃fz':Nat×Nat,(w.freeze ⟨L.g,cs.size,none⟩ 1).heap[L.g]?=some (.cells cs et fz')∧fz'.1≤fz'.2∧ ∀o,o<L.phys→(decide (fz'.1≤o)&&decide (o<fz'.2))=false:=by
     obtain⟨lo,hi⟩:=fz
     refine⟨if lo == hi then(cs.size,cs.size+1)else(min lo cs.size,max hi (cs.size+1)),?_,?_,fun o ho=>?_⟩
     ·simp only[World.freeze,Nat.one_ne_zero,if_false,Array.getElem?_modify,if_true,h1,Option.map_some]
     ·by_cases he:lo=hi
      ·simp[he]
      ·simp only[beq_iff_eq,he,if_false];omega
     ·have hf:=h5 rfl o ho
      rw[ZE h1]at hf
      simp only[Bool.and_eq_false_iff,decide_eq_false_iff_not]at hf ⊢
      by_cases he:lo=hi
      ·simp only[he,beq_self_eq_true,if_true]
       omega
      ·simp only[beq_iff_eq,he,if_false]
       simp only at t2
       have hlo:cs.size≤lo:=by
        rcases Nat.lt_or_ge lo cs.size with h'|h'
        ·exfalso
         have:=h5 rfl lo (by omega)
         rw[ZE h1]at this
         simp only[Bool.and_eq_false_iff,decide_eq_false_iff_not]at this
         omega
        ·exact h'
       omega
    have hold:∀g,g≠L.g→(w.freeze ⟨L.g,cs.size,none⟩ 1).heap[g]?=w.heap[g]?:=fun g hg=>by
     simp only[World.freeze,Nat.one_ne_zero,if_false,Array.getElem?_modify]
     rw[if_neg (fun e=>hg e.symm)]
    have hsz:(w.freeze ⟨L.g,cs.size,none⟩ 1).heap.size=w.heap.size:=by
     simp only[World.freeze,Nat.one_ne_zero,if_false,Array.size_modify]
    have hB':Zf ι (w.freeze ⟨L.g,cs.size,none⟩ 1) L (.cells rows false):=Zf.mk hz1 h2 h3 h4 (fun _ o ho=>by rw[ZE hz1];exact hz3 o ho) ⟨t1,hz2⟩
    obtain⟨s1,s2⟩:=Up (w':=w.freeze ⟨L.g,cs.size,none⟩ 1) hH hb rfl hL hsz hold (by simp[World.freeze]) (by simp[World.freeze]) (by simp[World.freeze]) hB' rfl
    have hrun:(convert src src (.slice (some ⟨L.g,L.base+off*L.size,none⟩) len c)).run P w= .ok (.slice (some ⟨L.g,L.base+off*L.size,none⟩) len c) (w.freeze ⟨L.g,cs.size,none⟩ 1):=by
     simp only[convert,Sem.run_bind,run_underlying hd1,run_underlying hd3,Result.andThen_ok,beq_self_eq_true,markStringish,run_shape,World.shape?,h1,run_freeze,Sem.run_pure]
    exact⟨_,_,ι,.inl (by simp only[Sem.run_bind,hrun,Result.andThen_ok,Sem.run_pure]),hx,s1,s2,fun _ _ h=>.inl h,fun h=>by cases h⟩
   ·cases h
  ·cases h
 ·cases h
end
end Go.Av
end
end
section
set_option linter.unusedVariables false
set_option linter.unusedSimpArgs false
noncomputable section
namespace Go.Av
section
variable {P:Program} {tt:TT} {ι:Inj} {w:World} {H:Heap} {m:Nat}
theorem Mw[Syms](hH:RelH ι H w){x:AVal}{v:Value}{rows:List (List AVal)}{size:Nat}(hx:RelV ι x v)(h:QH H x=some rows)(hl:∀r∈rows,r.length=size):
 ∃us,(Builtin.lenOf v).run P w= .ok rows.length w∧(Builtin.firstCells size rows.length v).run P w= .ok us.toArray w∧Qs ι rows.flatten us∧us.length=rows.length*size∧ ∀u∈us,u.oneCell'=true:=by
 cases x with
 |nils=>
  simp only[QH,Option.some.injEq]at h
  subst h
  cases hx
  exact⟨[],by simp[Builtin.lenOf],by simp[Builtin.firstCells],.nil ι,by simp,by simp⟩
 |slice n off len sz cap=>
  obtain⟨h1,h2,a,c,us,rfl,h3,h4,h5,h6⟩:=XL hH hx h
  have hsz:us.length=rows.length*size:=by
   rw[h4,h1]
   rcases Nat.eq_zero_or_pos len with e|e
   ·simp[e]
   ·have hr:rows[0]'(by omega)∈rows:=List.getElem_mem _
    rw[←h2 _ hr,hl _ hr]
  refine⟨us,by simp[Builtin.lenOf,h1],?_,h3,hsz,h5⟩
  exact run_firstCells_some (P:=P) w size rows.length a len c us hsz h6
 |str s=>
  simp only[QH,Option.some.injEq]at h
  subst h
  cases hx
  refine⟨s.map fun b=>.int .u8 b.toNat,by simp[Builtin.lenOf,J2],?_,?_,?_,by simp[Value.oneCell']⟩
  ·simp only[Builtin.firstCells,List.length_map,F2,Sem.run_pure]
   congr 1
   apply Array.ext'
   simp
  ·clear hl
   induction s with
   |nil=>exact .nil ι
   |cons b s ih=>exact .cons (.int _ _) ih
  ·rcases s with _|⟨b,s⟩
   ·simp
   ·have:=hl [.int .u8 b.toNat] (by simp)
    simp at this
    simp[←this]
 |vs sz all=>
  simp only[QH,Option.some.injEq]at h
  subst h
  by_cases hne:all=[]
  ·subst hne
   obtain⟨a,c,hm,hac,rfl⟩:=hx.of_vz
   refine⟨[],by simp[Builtin.lenOf],?_,.nil ι,by simp,by simp⟩
   cases a with
   |none=>simp[Builtin.firstCells]
   |some a=>exact run_firstCells_some (P:=P) w size 0 a 0 c [] (by simp) (by simp)
  obtain⟨h2,a,c,us,rfl,h3,h4,h5,h6⟩:=Bw hH hx hne
  have hsz:us.length=all.length*size:=by
   rw[h4]
   rcases Nat.eq_zero_or_pos all.length with e|e
   ·simp[e]
   ·have hr:all[0]'(by omega)∈all:=List.getElem_mem _
    rw[←h2 _ hr,hl _ hr]
  refine⟨us,by simp[Builtin.lenOf],?_,h3,hsz,h5⟩
  exact run_firstCells_some (P:=P) w size all.length a all.length c us hsz h6
 |zs sz=>
  simp only[QH,Option.some.injEq]at h
  subst h
  obtain⟨a,rfl⟩:=hx.of_zs
  refine⟨[],by simp[Builtin.lenOf],?_,.nil ι,by simp,by simp⟩
  cases a with
  |none=>simp[Builtin.firstCells]
  |some a=>exact run_firstCells_some (P:=P) w size 0 a 0 0 [] (by simp) (by simp)
 |_=>simp[QH]at h
structure App(P:Program)(argTypes:Array TypeId)(t e xt:TypeId)(i:TypeInfo)(z:Value):Prop where
 a0:argTypes[0]?=some t
 a1:argTypes[1]?=some xt
 ht:P.underlying t=some (.slice e)
 hxt:(∃e',P.underlying xt=some (.slice e'))∨P.underlying xt=some .string
 hi:P.info? e=some i
 hz:i.zero=some z
theorem YQ{argTypes:Array TypeId}{ty t e xt:TypeId}{i:TypeInfo}{z:Value}(A:App P argTypes t e xt i z){base:Option Addr}{sLen sCap n:Nat}{vx:Value}{olds news:List Value}
 (hlen:(Builtin.lenOf vx).run P w= .ok n w) (hold:(Builtin.firstCells i.size sLen (.slice base sLen sCap)).run P w.drew= .ok olds.toArray w.drew) (hnew:(Builtin.firstCells i.size n vx).run P w.drew= .ok news.toArray w.drew)
 (h1:sCap<sLen+n) (h2:(sLen+n)*i.bytes≤140737488355328) (h3:sLen+n≤140737488355328):
 (Builtin.append_ argTypes ty #[.slice base sLen sCap,vx]).run P w= .ok (.slice (some ⟨w.heap.size,0,none⟩) (sLen+n) (grownCap w (sLen+n) sCap e))
   {w with drawn:=w.drawn+1,heap:=w.heap.push (.cells (olds.toArray++news.toArray++Builtin.zeroCells z.cells (grownCap w (sLen+n) sCap e-(sLen+n))) e)}:=by
 have hn:¬(sLen+n≤sCap):=by omega
 have h63':¬(9223372036854775807<((sLen:Int)+(n:Int))):=by omega
 have h48:=growslice_fits (bytes:=i.bytes) h1 h2
 have h48':¬(281474976710656<Builtin.nextslicecap (sLen+n) sCap*i.bytes):=by omega
 have hfin:w.drew.alloc (.cells (olds.toArray++news.toArray++Builtin.zeroCells z.cells (grownCap w (sLen+n) sCap e-(sLen+n))) e)=
  {w with drawn:=w.drawn+1,heap:=w.heap.push (.cells (olds.toArray++news.toArray++Builtin.zeroCells z.cells (grownCap w (sLen+n) sCap e-(sLen+n))) e)}:=rfl
 rw[←hfin]
 rcases A.hxt with⟨e',hx⟩|hx
 ·simp[Builtin.append_,A.a0,A.a1,run_underlying A.ht,run_underlying hx,sizeOf,typeInfo,zeroValue,A.hi,A.hz,hlen,hn,h63',h48',Question.forced,hold,hnew,newRow,grownCap]
  congr 2
  apply Array.ext'
  simp[List.append_assoc]
 ·simp[Builtin.append_,A.a0,A.a1,run_underlying A.ht,run_underlying hx,sizeOf,typeInfo,zeroValue,A.hi,A.hz,hlen,hn,h63',h48',Question.forced,hold,hnew,newRow,grownCap]
  congr 2
  apply Array.ext'
  simp[List.append_assoc]
theorem Xq{argTypes:Array TypeId}{ty t e xt:TypeId}{i:TypeInfo}{z:Value}(A:App P argTypes t e xt i z){base:Option Addr}{sLen sCap n:Nat}{vx:Value}{news:List Value}{w':World}
 (hlen:(Builtin.lenOf vx).run P w= .ok n w) (hnew:(Builtin.firstCells i.size n vx).run P w= .ok news.toArray w)
 (h1:sLen+n≤sCap) (hst:∀a,base=some a→(storeCells (a.add (sLen*i.size)) news).run P w= .ok () w') (hno:base=none→w'=w):
 (Builtin.append_ argTypes ty #[.slice base sLen sCap,vx]).run P w= .ok (.slice base (sLen+n) sCap) w':=by
 rcases A.hxt with⟨e',hx⟩|hx
 ·cases base with
  |none=>obtain rfl:=hno rfl;simp[Builtin.append_,A.a0,A.a1,run_underlying A.ht,run_underlying hx,sizeOf,typeInfo,A.hi,hlen,h1,hnew]
  |some a=>simp[Builtin.append_,A.a0,A.a1,run_underlying A.ht,run_underlying hx,sizeOf,typeInfo,A.hi,hlen,h1,hnew,hst a rfl]
 ·cases base with
  |none=>obtain rfl:=hno rfl;simp[Builtin.append_,A.a0,A.a1,run_underlying A.ht,run_underlying hx,sizeOf,typeInfo,A.hi,hlen,h1,hnew]
  |some a=>simp[Builtin.append_,A.a0,A.a1,run_underlying A.ht,run_underlying hx,sizeOf,typeInfo,A.hi,hlen,h1,hnew,hst a rfl]
theorem RelH.drew[Syms](h:RelH ι H w):RelH ι H w.drew:=⟨fun n b hb=>let⟨L,h1,h2⟩:=h.blk n b hb;⟨L,h1,h2.keep (Inj.le_refl ι) rfl⟩,h.inj,h.fz⟩
end
end Go.Av
end
end
section
set_option linter.unusedVariables false
set_option linter.unusedSimpArgs false
noncomputable section
namespace Go.Av
section
variable {P:Program} {tt:TT} {ι:Inj} {w:World} {H:Heap} {m:Nat}
theorem Hf[Syms](H:Heap)(n:Nat):(H.set n none).sub H:=by
 intro k b h
 rw[Heap.get_set]at h
 split at h
 ·cases h
 ·exact h
theorem sub_self[Syms](H:Heap):H.sub H:=Heap.sub_refl H
theorem UL{size:Nat}:∀{rows:List (List AVal)},(∀r∈rows,r.length=size)→rows.flatten.length=rows.length*size
 |[],_=>by simp
 |r::rs,h=>by
  simp only[List.flatten_cons,List.length_append,List.length_cons,Nat.add_mul,Nat.one_mul]
  rw[UL (fun x hx=>h x (by simp[hx])),h r (by simp)]
  omega
theorem Wc[Syms]{H0:Heap}(hH:RelH ι H w)(hs:H0.sub H)(hl:Kj ι w)(hm:ι m=none){rows:List (List AVal)}{us:List Value}{zs:Array Value}{e:TypeId}{size need newCap:Nat}
 (hr:Qs ι rows.flatten us) (hls:∀r∈rows,r.length=size) (ho:∀u∈us,u.oneCell'=true) (hn:rows.length=need) (hc:need≤newCap) (hcm:newCap≤maxLen) (hz:zs.size=(newCap-need)*size):
 ∃κ,RelV κ (.slice m 0 need size none) (.slice (some ⟨w.heap.size,0,none⟩) need newCap)∧RelH κ (H0.set m (some (.cells rows false))) {w with drawn:=w.drawn+1,heap:=w.heap.push (.cells (us.toArray++zs) e)}∧
  Step ι H w κ (H0.set m (some (.cells rows false))) {w with drawn:=w.drawn+1,heap:=w.heap.push (.cells (us.toArray++zs) e)}∧
  (∀n L,κ n=some L→ι n=some L∨(n=m∧L.g<w.heap.size+1))∧ ∀L,κ m=some L→L.ty=some e∧L.base=0:=by
 have hul:us.length=need*size:=by rw[←hr.1,UL hls,hn]
 have hsz:(us.toArray++zs).size=newCap*size:=by
  simp only[Array.size_append,List.size_toArray,hul,hz,←Nat.add_mul]
  congr 1
  omega
 obtain⟨h1,h2⟩:=FN (w':={w with drawn:=w.drawn+1,heap:=w.heap.push (.cells (us.toArray++zs) e)}) (L:=⟨w.heap.size,0,size,(us.toArray++zs).size,some e⟩) (hH.sub hs) hl hm rfl rfl rfl rfl rfl
  (Ks (hr.mono (Inj.le_put _ hm)) hls ho (by simp) rfl)
 refine⟨_,.slice m 0 need size none _ _ newCap (Inj.put_same _ _ _) rfl (.inr (by simp)) hc (by simp only[Nat.zero_add,hsz];exact Nat.le_refl _) hcm (fun k hk=>by cases hk),h1,((Step.refl ι H w).sub_right hs).trans h2,fun n L hn=>?_,fun L hL=>?_⟩
 ·by_cases e:n=m
  ·subst e
   rw[Inj.put_same]at hn
   cases hn
   exact .inr ⟨rfl,by simp⟩
  ·rw[Inj.put_ne _ _ e]at hn
   exact .inl hn
 ·rw[Inj.put_same]at hL
  cases hL
  exact⟨rfl,rfl⟩
theorem Jf[Syms]{κ:Inj}{m len sz:Nat}{t:TypeId}{v:Value}(h:RelV κ (.slice m 0 len sz none) v)(h0:len≠0)(ht:∀L,κ m=some L→L.ty=some t∧L.base=0):RelV κ (.tslice m len sz t) v:=by
 obtain⟨L,a,c,hL,hsz,ha,hl,hp,hm,_,rfl⟩:=h.of_slice
 obtain⟨h1,h2⟩:=ht L hL
 have ea:a=⟨L.g,0,none⟩:=by
  rcases ha with h|h
  ·omega
  ·rw[h,h2];simp
 subst ea
 refine .tslice m len sz t L c hL hsz ⟨h1,h2⟩ hl ?_ hm
 rw[h2]at hp
 simpa using hp
theorem RelV.of_tslice[Syms]{ι:Inj}{n len sz:Nat}{t:TypeId}{v:Value}(h:RelV ι (.tslice n len sz t) v):RelV ι (.slice n 0 len sz none) v∧ ∀L,ι n=some L→L.ty=some t∧L.base=0:=by
 cases h with
 |tslice _ _ _ _ L c h hs ht hl hp hm=>
  refine⟨.slice n 0 len sz none L ⟨L.g,0,none⟩ c h hs (.inr (by rw[ht.2];simp)) hl (by rw[ht.2];simpa using hp) hm (fun k hk=>by cases hk),fun M hM=>?_⟩
  rw[h]at hM
  cases hM
  exact ht
theorem Out.of_run[Syms]{r:Res}{v:Value}{w':World}{κ:Inj}{X:Sem Value}(hrun:X.run P w= .ok v w')(h1:RelV κ r.v v)(h2:RelH κ (r.heap H m) w')(h3:Step ι H w κ (r.heap H m) w')
 (h4:∀n L,κ n=some L→ι n=some L∨(n=m∧L.g<w'.heap.size)) (h5:r.isVal=false:=by rfl):Out ι H w m r ((do let v←X;pure (.value v):Sem Next).run P w):=
 ⟨v,w',κ,.inl (by simp only[Sem.run_bind,hrun,Result.andThen_ok,Sem.run_pure]),h1,h2,h3,h4,fun h=>by rw[h5]at h;cases h⟩
theorem We{w:World}{need old:Nat}{e:TypeId}(h:need≤140737488355328):need≤grownCap w need old e∧grownCap w need old e≤maxLen:=
 ⟨grownCap_ge w need old e,grownCap_le_maxLen w need old e (by simp only[maxLen];omega)⟩
theorem Ya{z:Value}{size k:Nat}(h:z.cells.size=size):(Builtin.zeroCells z.cells k).size=k*size:=by rw[size_zeroCells,h]
theorem Fr[Syms](htt:TT.ok P tt)(hH:RelH ι H w)(hl:Kj ι w)(hm:ι m=none){argTypes:Array TypeId}{ty:TypeId}{s x:AVal}{vs vx:Value}{r:Res}(hs:RelV ι s vs)(hx:RelV ι x vx)
 (h:Jc tt H m argTypes s x=some r):Out ι H w m r ((do let v←Builtin.append_ argTypes ty #[vs,vx];pure (.value v):Sem Next).run P w):=by
 unfold Jc at h
 split at h
 rotate_left
 ·cases h
 rename_i t ha0
 split at h
 rotate_left
 ·cases h
 rename_i e _ _ _ hty
 split at h
 rotate_left
 ·cases h
 rename_i ety xty hety hxty
 split at h
 rotate_left
 ·cases h
 rename_i hkind
 split at h
 rotate_left
 ·cases h
 rename_i news hnews
 split at h
 rotate_left
 ·cases h
 rename_i hc
 obtain⟨c1,c2,c3,c4⟩:=hc
 obtain⟨d,i0,hd,hi0,hk,_⟩:=Qk htt hty
 obtain rfl:=(Qg hk).2.2.2.1 _ rfl
 obtain⟨ed,ei,hed,hei,hek,hes,heb,hez,_⟩:=Qk htt hety
 obtain⟨z,hz1,hz2⟩:=hez.resolve_right (fun e=>by rw[e]at c4;simp[AVal.cells,Qw,AVal.leaf]at c4)
 have hzs:z.cells.size=ety.size:=by
  have:=(Zy hz2 c4 ι).1.1
  simp at this;omega
 obtain⟨xt,hxt,hxt2⟩:=Option.bind_eq_some_iff.1 hxty
 obtain⟨xd,xi,hxd,_,hxk,_⟩:=Qk htt hxt2
 have A:App P argTypes t e xt ei z:=⟨ha0,hxt,hd,by
  cases hkd:xty.kd<;>rw[hkd]at hkind hxk<;>simp[Hi]at hkind
  ·cases xd<;>simp[Kd.fits]at hxk;exact .inr hxd
  ·cases xd<;>simp[Kd.fits]at hxk;exact .inl ⟨_,hxd⟩,hei,hz1⟩
 have hls:∀r∈news,r.length=ety.size:=fun r hr=>Nat.eq_of_beq_eq_true (List.all_eq_true.1 c1 r hr)
 obtain⟨us,n1,n2,n3,n4,n5⟩:=Mw (P:=P) hH hx hnews hls
 obtain⟨us',n1',n2',n3',n4',n5'⟩:=Mw (P:=P) (w:=w.drew) hH.drew hx hnews hls
 have hsing:Result.andThen (Result.ok vs w) (fun(v:Value) w'=>Result.ok (Next.value v) w')=Result.ok (.value vs) w:=rfl
 rw[←hes]at n2 n2'
 cases s with
 |zs sz=>
  obtain⟨a,rfl⟩:=hs.of_zs
  simp only at h
  split at h
  ·rename_i h0
   cases h
   refine Out.val (v:=.slice a 0 0) hH ?_ (.zs _ _)
   have hus:us=[]:=List.eq_nil_of_length_eq_zero (by rw[n4,h0,Nat.zero_mul])
   rw[h0]at n1 n2
   have:=Xq (P:=P) (ty:=ty) (base:=a) (sLen:=0) (sCap:=0) (w':=w) A n1 n2 (Nat.le_refl _) (fun a ha=>by rw[hus];rfl) (fun _=>rfl)
   simp only[Sem.run_bind,this,Result.andThen_ok,Sem.run_pure,Nat.add_zero]
  ·rename_i h0
   split at h
   ·rename_i hb
    cases h
    obtain⟨g1,g2⟩:=We (w:=w) (need:=0+news.length) (old:=0) (e:=e) (by omega)
    have hold:(Builtin.firstCells ei.size 0 (.slice a 0 0)).run P w.drew= .ok (#[]:Array Value) w.drew:=by
     cases a with
     |none=>simp[Builtin.firstCells]
     |some a=>exact run_firstCells_some (P:=P) w.drew _ 0 a 0 0 [] (by simp) (by simp)
    have hrun:=YQ (P:=P) (ty:=ty) (base:=a) (sLen:=0) (sCap:=0) (olds:=[]) A n1 hold n2' (by omega) (by rw[Nat.zero_add,heb];exact hb.1) (by omega)
    obtain⟨κ,k1,k2,k3,k4,k5⟩:=Wc (e:=e) (zs:=Builtin.zeroCells z.cells (grownCap w (0+news.length) 0 e-(0+news.length))) hH (sub_self H) hl hm n3' hls n5' (need:=0+news.length) (by omega) g1 g2 (Ya hzs)
    refine Out.of_run hrun (κ:=κ) ?_ ?_ ?_ ?_
    ·simpa[Res.v]using k1
    ·simpa[Res.heap]using k2
    ·simpa[Res.heap]using k3
    ·simpa using k4
   ·cases h
 |nils=>
  cases hs
  simp only at h
  split at h
  ·rename_i h0
   cases h
   refine Out.val (v:=.slice none 0 0) hH ?_ .nils
   rw[h0]at n1 n2
   have:=Xq (P:=P) (ty:=ty) (base:=none) (sLen:=0) (sCap:=0) (w':=w) A n1 n2 (Nat.le_refl _) (fun a ha=>by cases ha) (fun _=>rfl)
   simp only[Sem.run_bind,this,Result.andThen_ok,Sem.run_pure,Nat.add_zero]
  ·rename_i h0
   split at h
   ·rename_i hb
    cases h
    obtain⟨g1,g2⟩:=We (w:=w) (need:=0+news.length) (old:=0) (e:=e) (by omega)
    have hrun:=YQ (P:=P) (ty:=ty) (base:=none) (sLen:=0) (sCap:=0) (olds:=[]) A n1 (by simp[Builtin.firstCells]) n2' (by omega) (by rw[Nat.zero_add,heb];exact hb.1) (by omega)
    obtain⟨κ,k1,k2,k3,k4,k5⟩:=Wc (e:=e) (zs:=Builtin.zeroCells z.cells (grownCap w (0+news.length) 0 e-(0+news.length))) hH (sub_self H) hl hm n3' hls n5' (need:=0+news.length) (by omega) g1 g2 (Ya hzs)
    refine Out.of_run hrun (κ:=κ) ?_ ?_ ?_ ?_
    ·simpa[Res.v]using k1
    ·simpa[Res.heap]using k2
    ·simpa[Res.heap]using k3
    ·simpa using k4
   ·cases h
 |slice n off len sz cap=>
  simp only at h
  split at h
  rotate_left
  ·cases h
  rename_i hb
  obtain⟨b1,b2,b3⟩:=hb
  split at h
  ·rename_i h0
   cases h
   obtain⟨L,a,c,hL,hs',ha,hl',hp,hmm,hcap,rfl⟩:=hs.of_slice
   refine Out.val (v:=.slice (some a) len c) hH ?_ hs
   rw[h0]at n1 n2 n4
   have hus:us=[]:=List.eq_nil_of_length_eq_zero (by simpa using n4)
   subst hus
   have:=Xq (P:=P) (ty:=ty) (base:=some a) (sLen:=len) (sCap:=c) (w':=w) A n1 n2 hl' (fun a ha=>by simp[storeCells]) (fun h=>by cases h)
   simp only[Sem.run_bind,this,Result.andThen_ok,Sem.run_pure,Nat.add_zero]
  ·rename_i h0
   split at h
   rotate_left
   ·cases h
   rename_i olds holds
   obtain⟨L,a,c,hL,hsz,ha,hlc,hp,hmm,hcap,rfl⟩:=hs.of_slice
   obtain⟨o1,o2,a',c',uo,he,o3,o4,o5,o6⟩:=XL hH hs holds
   obtain⟨_,_,a'',c'',uo',he',o3',o4',o5',o6'⟩:=XL (w:=w.drew) hH.drew hs holds
   cases he
   cases he'
   have hold:(Builtin.firstCells ei.size len (.slice (some a) len c)).run P w.drew= .ok uo'.toArray w.drew:=
    run_firstCells_some (P:=P) w.drew ei.size len a len c uo' (by rw[o4',hes,b1]) o6'
   have hrows:∀r∈olds++news,r.length=ety.size:=by
    intro r hr
    rcases List.mem_append.1 hr with hr|hr
    ·rw[←b1];exact o2 r hr
    ·exact hls r hr
   have hflat:Qs ι (olds++news).flatten (uo'++us'):=by rw[List.flatten_append];exact o3'.append n3'
   have hone:∀u∈uo'++us',u.oneCell'=true:=by
    intro u hu
    rcases List.mem_append.1 hu with hu|hu
    ·exact o5' u hu
    ·exact n5' u hu
   have hnl:(olds++news).length=len+news.length:=by simp[o1]
   -- it grows
   have grow:∀H0:Heap,H0.sub H→c<len+news.length→ ∃v w' κ,(Builtin.append_ argTypes ty #[.slice (some a) len c,vx]).run P w= .ok v w'∧RelV κ (.slice m 0 (len+news.length) sz none) v∧
    RelH κ (H0.set m (some (.cells (olds++news) false))) w'∧Step ι H w κ (H0.set m (some (.cells (olds++news) false))) w'∧ ∀n L,κ n=some L→ι n=some L∨(n=m∧L.g<w'.heap.size):=by
    intro H0 hsub hlt
    obtain⟨g1,g2⟩:=We (w:=w) (need:=len+news.length) (old:=c) (e:=e) b3
    have hrun:=YQ (P:=P) (ty:=ty) (base:=some a) (sLen:=len) (sCap:=c) A n1 hold n2' hlt (by rw[heb];exact b2) b3
    obtain⟨κ,k1,k2,k3,k4,k5⟩:=Wc (e:=e) (zs:=Builtin.zeroCells z.cells (grownCap w (len+news.length) c e-(len+news.length))) hH hsub hl hm hflat hrows hone hnl g1 g2 (Ya hzs)
    rw[←b1]at k1
    refine⟨_,_,κ,hrun,k1,?_,?_,?_⟩
    ·simpa using k2
    ·simpa using k3
    ·simpa using k4
   -- there is room
   have room:∀rows:List (List AVal),H.get n=some (.cells rows false)→len+news.length≤c→ ∃(cs cs':Array Value) (e':TypeId) (fz:Nat×Nat) (w':World),
    (Builtin.append_ argTypes ty #[.slice (some a) len c,vx]).run P w= .ok (.slice (some a) (len+news.length) c) w'∧w'=w.setRow L.g cs'∧w.heap[L.g]?=some (.cells cs e' fz)∧w'.heap[L.g]?=some (.cells cs' e' fz)∧cs.size=L.phys∧
    cs'.size=cs.size∧QE ι cs L.base L.size rows∧L.base+rows.length*L.size≤L.phys∧(∀o,o<L.phys→w'.frozen? ⟨L.g,o,none⟩=false)∧
    (∀q,q<L.base+(off+len)*L.size∨L.base+(off+len+news.length)*L.size≤q→cs'[q]?=cs[q]?)∧QE ι cs' (L.base+(off+len)*L.size) L.size news∧a=⟨L.g,L.base+off*L.size,none⟩:=by
    intro rows hb hroom
    obtain⟨L',hL',hB⟩:=hH.blk n _ hb
    obtain rfl:L=L':=by rw[hL]at hL';exact Option.some.inj hL'
    obtain⟨cs,e',fz,h1,h2,h3,h4,h5⟩:=hB.rows
    have hae:=ha.resolve_left (by omega)
    have hf:=h5 rfl
    have hul:us.length=news.length*L.size:=by rw[n4,hsz,b1]
    have hmul:(off+len+news.length)*L.size≤(off+c)*L.size:=Nat.mul_le_mul_right _ (by omega)
    have hfit:L.base+(off+len)*L.size+us.length≤cs.size:=by
     rw[hul,h2]
     rw[Nat.add_mul (off+len)]at hmul
     omega
    have hst:=Xi (P:=P) L.g (L.base+(off+len)*L.size) e' fz us 0 cs w h1 (fun q hq=>hf q (by omega)) (by omega) n5
    simp only[Nat.add_zero]at hst
    have hg':=setRow_heap w L.g cs (cs.toList.take (L.base+(off+len)*L.size)++us++cs.toList.drop (L.base+(off+len)*L.size+us.length)).toArray e' fz h1
    have hget:=DE cs.toList (L.base+(off+len)*L.size) us (by simpa using hfit)
    refine⟨cs,_,e',fz,_,Xq (P:=P) (ty:=ty) (base:=some a) A n1 n2 hroom (fun a2 ha2=>?_) (fun h=>by cases h),rfl,h1,hg',h2,?_,h4,h3,?_,?_,?_,hae⟩
    ·cases ha2
     rw[hae,Ze,hes,←b1,←hsz,Nat.add_assoc,←Nat.add_mul]
     exact hst
    ·simp;omega
    ·intro o ho
     have:=hf o ho
     rw[ZE h1]at this
     rw[ZE hg'];exact this
    ·intro q hq
     have hadd:(off+len+news.length)*L.size=(off+len)*L.size+us.length:=by rw[Nat.add_mul,hul]
     rw[List.getElem?_toArray,hget,if_neg (by omega),Array.getElem?_toList]
    ·refine QE.of_flat (fun r hr=>by rw[hsz,b1];exact hls r hr) n3 (fun i u hu=>⟨?_,n5 u (List.mem_of_getElem? hu)⟩)
     have hi:i<us.length:=(List.getElem?_eq_some_iff.1 hu).1
     rw[List.getElem?_toArray,hget,if_pos (by omega),←hu]
     congr 1
     omega
   cases cap with
   |some c0=>
    obtain rfl:=hcap c0 rfl
    simp only at h
    split at h
    ·rename_i hlt
     cases h
     obtain⟨v,w',κ,hrun,k1,k2,k3,k4⟩:=grow H (sub_self H) hlt
     exact Out.of_run hrun k1 k2 k3 k4
    ·rename_i hge
     split at h
     rotate_left
     ·cases h
     rename_i rows hb
     split at h
     rotate_left
     ·cases h
     rename_i hfit
     cases h
     obtain⟨cs,cs',e',fz,w',hrun,rfl,h1,h2,h3,h4,h5,h6,h7,h8,h9,h10⟩:=room rows hb (by omega)
     have hrb:Zf ι (w.setRow L.g cs') L (.cells (rows.take (off+len)++news++rows.drop (off+len+news.length)) false):=by
      have hty':(∀t,L.ty=some t→t=e')∧fz.1≤fz.2:=by
       obtain⟨L',hL',hB⟩:=hH.blk n _ hb
       obtain rfl:L=L':=by rw[hL]at hL';exact Option.some.inj hL'
       exact hB.ty h1
      refine Zf.mk h2 (by omega) ?_ ?_ (fun _=>h7) hty'
      ·have:(rows.take (off+len)++news++rows.drop (off+len+news.length)).length=rows.length:=by simp;omega
       rw[this];exact h6
      ·have t1:(rows.take (off+len)).length=off+len:=by simp;omega
       refine QE.append (QE.append ?_ ?_) ?_
       ·refine(h5.take _).keep (fun i _ hi=>h8 i (.inl ?_))
        rw[t1]at hi;exact hi
       ·rw[t1];exact h9
       ·rw[List.length_append,t1]
        refine(h5.drop _).keep (fun i hi _=>h8 i (.inr hi))
     obtain⟨s1,s2⟩:=Up (w':=w.setRow L.g cs') hH hb rfl hL (by simp) (fun g hg=>setRow_other w L.g g _ hg) rfl rfl rfl hrb rfl
     exact Out.of_run hrun (κ:=ι) (.slice n off (len+news.length) sz (some c) L a c hL hsz ha (by omega) hp hmm (fun k hk=>by cases hk;rfl)) s1 s2 (fun _ _ h=>.inl h)
   |none=>
    simp only at h
    split at h
    rotate_left
    ·cases h
    rename_i rows hb
    cases h
    by_cases hlt:c<len+news.length
    ·obtain⟨v,w',κ,hrun,k1,k2,k3,k4⟩:=grow (H.set n none) (Hf H n) hlt
     exact Out.of_run hrun k1 k2 k3 k4
    ·obtain⟨cs,cs',e',fz,w',hrun,rfl,h1,h2,h3,h4,h5,h6,h7,h8,h9,h10⟩:=room rows hb (by omega)
     have holds':olds=(rows.drop off).take len∧off+len≤rows.length:=by
      simp only[QH,hb]at holds
      split at holds
      ·rename_i hle;cases holds;exact⟨rfl,hle⟩
      ·cases holds
     have hmul:(off+len+news.length)*L.size≤(off+c)*L.size:=Nat.mul_le_mul_right _ (by omega)
     have hrb:Zf (ι.put m ⟨L.g,L.base+off*L.size,L.size,L.phys,L.ty⟩) (w.setRow L.g cs') ⟨L.g,L.base+off*L.size,L.size,L.phys,L.ty⟩ (.cells (olds++news) false):=by
      have hty':(∀t,L.ty=some t→t=e')∧fz.1≤fz.2:=by
       obtain⟨L',hL',hB⟩:=hH.blk n _ hb
       obtain rfl:L=L':=by rw[hL]at hL';exact Option.some.inj hL'
       exact hB.ty h1
      refine Zf.mk h2 (by simp only;omega) ?_ ?_ (fun _=>h7) hty'
      ·simp only[hnl]
       have:off*L.size+(len+news.length)*L.size=(off+len+news.length)*L.size:=by rw[←Nat.add_mul];congr 1;omega
       omega
      ·refine(QE.append ?_ ?_).mono (Inj.le_put _ hm)
       ·rw[holds'.1]
        refine((h5.drop off).take len).keep (fun i _ hi=>h8 i (.inl ?_))
        have:((rows.drop off).take len).length=len:=by simp;omega
        rw[this]at hi
        have:off*L.size+len*L.size=(off+len)*L.size:=by rw[←Nat.add_mul]
        omega
       ·rw[o1]
        have:L.base+off*L.size+len*L.size=L.base+(off+len)*L.size:=by rw[Nat.add_mul];omega
        simp only[this]
        exact h9
     obtain⟨s1,s2⟩:=Mx (w':=w.setRow L.g cs') (M:=⟨L.g,L.base+off*L.size,L.size,L.phys,L.ty⟩) hH hb rfl hL hm rfl (by simp) (fun g hg=>setRow_other w L.g g _ hg) rfl rfl rfl hrb
     refine Out.of_run hrun (κ:=ι.put m ⟨L.g,L.base+off*L.size,L.size,L.phys,L.ty⟩) ?_ s1 s2 (fun k M hk=>?_)
     ·refine .slice m 0 (len+news.length) sz none _ a c (Inj.put_same _ _ _) hsz (.inr (by rw[h10];simp)) (by omega) ?_ hmm (fun k hk=>by cases hk)
      simp only[Nat.zero_add]
      rw[Nat.add_mul]at hp
      omega
     ·by_cases ek:k=m
      ·rw[ek,Inj.put_same]at hk
       cases hk
       exact .inr ⟨ek,by simpa using hl n L hL⟩
      ·rw[Inj.put_ne _ _ ek]at hk
       exact .inl hk
 |tnils=>
  cases hs
  simp only at h
  split at h
  ·rename_i h0
   cases h
   refine Out.val (v:=.slice none 0 0) hH ?_ .tnils
   rw[h0]at n1 n2
   have:=Xq (P:=P) (ty:=ty) (base:=none) (sLen:=0) (sCap:=0) (w':=w) A n1 n2 (Nat.le_refl _) (fun a ha=>by cases ha) (fun _=>rfl)
   simp only[Sem.run_bind,this,Result.andThen_ok,Sem.run_pure,Nat.add_zero]
  ·rename_i h0
   split at h
   ·rename_i hb
    cases h
    obtain⟨g1,g2⟩:=We (w:=w) (need:=0+news.length) (old:=0) (e:=e) (by omega)
    have hrun:=YQ (P:=P) (ty:=ty) (base:=none) (sLen:=0) (sCap:=0) (olds:=[]) A n1 (by simp[Builtin.firstCells]) n2' (by omega) (by rw[Nat.zero_add,heb];exact hb.1) (by omega)
    obtain⟨κ,k1,k2,k3,k4,k5⟩:=Wc (e:=e) (zs:=Builtin.zeroCells z.cells (grownCap w (0+news.length) 0 e-(0+news.length))) hH (sub_self H) hl hm n3' hls n5' (need:=0+news.length) (by omega) g1 g2 (Ya hzs)
    refine Out.of_run hrun (κ:=κ) ?_ ?_ ?_ ?_
    ·exact Jf (by simpa[Res.v]using k1) h0 k5
    ·simpa[Res.heap]using k2
    ·simpa[Res.heap]using k3
    ·simpa using k4
   ·cases h
 |tslice n len sz t'=>
  obtain⟨hs',hty0⟩:=hs.of_tslice
  simp only at h
  split at h
  rotate_left
  ·cases h
  rename_i hb
  obtain⟨b1,bt,b2,b3⟩:=hb
  have bt:=bt.symm
  subst bt
  split at h
  ·rename_i h0
   cases h
   obtain⟨L,a,c,hL,hs',ha,hl',hp,hmm,hcap,rfl⟩:=hs'.of_slice
   refine Out.val (v:=.slice (some a) len c) hH ?_ hs
   rw[h0]at n1 n2 n4
   have hus:us=[]:=List.eq_nil_of_length_eq_zero (by simpa using n4)
   subst hus
   have:=Xq (P:=P) (ty:=ty) (base:=some a) (sLen:=len) (sCap:=c) (w':=w) A n1 n2 hl' (fun a ha=>by simp[storeCells]) (fun h=>by cases h)
   simp only[Sem.run_bind,this,Result.andThen_ok,Sem.run_pure,Nat.add_zero]
  ·rename_i h0
   split at h
   rotate_left
   ·cases h
   rename_i olds holds
   obtain⟨L,a,c,hL,hsz,ha,hlc,hp,hmm,hcap,rfl⟩:=hs'.of_slice
   obtain⟨o1,o2,a',c',uo,he,o3,o4,o5,o6⟩:=XL hH hs' holds
   obtain⟨_,_,a'',c'',uo',he',o3',o4',o5',o6'⟩:=XL (w:=w.drew) hH.drew hs' holds
   cases he
   cases he'
   have hold:(Builtin.firstCells ei.size len (.slice (some a) len c)).run P w.drew= .ok uo'.toArray w.drew:=
    run_firstCells_some (P:=P) w.drew ei.size len a len c uo' (by rw[o4',hes,b1]) o6'
   have hrows:∀r∈olds++news,r.length=ety.size:=by
    intro r hr
    rcases List.mem_append.1 hr with hr|hr
    ·rw[←b1];exact o2 r hr
    ·exact hls r hr
   have hflat:Qs ι (olds++news).flatten (uo'++us'):=by rw[List.flatten_append];exact o3'.append n3'
   have hone:∀u∈uo'++us',u.oneCell'=true:=by
    intro u hu
    rcases List.mem_append.1 hu with hu|hu
    ·exact o5' u hu
    ·exact n5' u hu
   have hnl:(olds++news).length=len+news.length:=by simp[o1]
   -- it grows
   have grow:∀H0:Heap,H0.sub H→c<len+news.length→ ∃v w' κ,(Builtin.append_ argTypes ty #[.slice (some a) len c,vx]).run P w= .ok v w'∧RelV κ (.slice m 0 (len+news.length) sz none) v∧(∀L,κ m=some L→L.ty=some e∧L.base=0)∧
    RelH κ (H0.set m (some (.cells (olds++news) false))) w'∧Step ι H w κ (H0.set m (some (.cells (olds++news) false))) w'∧ ∀n L,κ n=some L→ι n=some L∨(n=m∧L.g<w'.heap.size):=by
    intro H0 hsub hlt
    obtain⟨g1,g2⟩:=We (w:=w) (need:=len+news.length) (old:=c) (e:=e) b3
    have hrun:=YQ (P:=P) (ty:=ty) (base:=some a) (sLen:=len) (sCap:=c) A n1 hold n2' hlt (by rw[heb];exact b2) b3
    obtain⟨κ,k1,k2,k3,k4,k5⟩:=Wc (e:=e) (zs:=Builtin.zeroCells z.cells (grownCap w (len+news.length) c e-(len+news.length))) hH hsub hl hm hflat hrows hone hnl g1 g2 (Ya hzs)
    rw[←b1]at k1
    refine⟨_,_,κ,hrun,k1,k5,?_,?_,?_⟩
    ·simpa using k2
    ·simpa using k3
    ·simpa using k4
   -- there is room
   have room:∀rows:List (List AVal),H.get n=some (.cells rows false)→len+news.length≤c→ ∃(cs cs':Array Value) (e':TypeId) (fz:Nat×Nat) (w':World),
    (Builtin.append_ argTypes ty #[.slice (some a) len c,vx]).run P w= .ok (.slice (some a) (len+news.length) c) w'∧w'=w.setRow L.g cs'∧w.heap[L.g]?=some (.cells cs e' fz)∧w'.heap[L.g]?=some (.cells cs' e' fz)∧cs.size=L.phys∧
    cs'.size=cs.size∧QE ι cs L.base L.size rows∧L.base+rows.length*L.size≤L.phys∧(∀o,o<L.phys→w'.frozen? ⟨L.g,o,none⟩=false)∧
    (∀q,q<L.base+(0+len)*L.size∨L.base+(0+len+news.length)*L.size≤q→cs'[q]?=cs[q]?)∧QE ι cs' (L.base+(0+len)*L.size) L.size news∧a=⟨L.g,L.base+0*L.size,none⟩:=by
    intro rows hb hroom
    obtain⟨L',hL',hB⟩:=hH.blk n _ hb
    obtain rfl:L=L':=by rw[hL]at hL';exact Option.some.inj hL'
    obtain⟨cs,e',fz,h1,h2,h3,h4,h5⟩:=hB.rows
    have hae:=ha.resolve_left (by omega)
    have hf:=h5 rfl
    have hul:us.length=news.length*L.size:=by rw[n4,hsz,b1]
    have hmul:(0+len+news.length)*L.size≤(0+c)*L.size:=Nat.mul_le_mul_right _ (by omega)
    have hfit:L.base+(0+len)*L.size+us.length≤cs.size:=by
     rw[hul,h2]
     rw[Nat.add_mul (0+len)]at hmul
     omega
    have hst:=Xi (P:=P) L.g (L.base+(0+len)*L.size) e' fz us 0 cs w h1 (fun q hq=>hf q (by omega)) (by omega) n5
    simp only[Nat.add_zero]at hst
    have hg':=setRow_heap w L.g cs (cs.toList.take (L.base+(0+len)*L.size)++us++cs.toList.drop (L.base+(0+len)*L.size+us.length)).toArray e' fz h1
    have hget:=DE cs.toList (L.base+(0+len)*L.size) us (by simpa using hfit)
    refine⟨cs,_,e',fz,_,Xq (P:=P) (ty:=ty) (base:=some a) A n1 n2 hroom (fun a2 ha2=>?_) (fun h=>by cases h),rfl,h1,hg',h2,?_,h4,h3,?_,?_,?_,hae⟩
    ·cases ha2
     rw[hae,Ze,hes,←b1,←hsz,Nat.add_assoc,←Nat.add_mul]
     exact hst
    ·simp only[List.size_toArray,List.length_append,List.length_take,List.length_drop,Array.length_toList];omega
    ·intro o ho
     have:=hf o ho
     rw[ZE h1]at this
     rw[ZE hg'];exact this
    ·intro q hq
     have hadd:(0+len+news.length)*L.size=(0+len)*L.size+us.length:=by rw[Nat.add_mul,hul]
     rw[List.getElem?_toArray,hget,if_neg (by omega),Array.getElem?_toList]
    ·refine QE.of_flat (fun r hr=>by rw[hsz,b1];exact hls r hr) n3 (fun i u hu=>⟨?_,n5 u (List.mem_of_getElem? hu)⟩)
     have hi:i<us.length:=(List.getElem?_eq_some_iff.1 hu).1
     rw[List.getElem?_toArray,hget,if_pos (by omega),←hu]
     congr 1
     omega
   split at h
   rotate_left
   ·cases h
   rename_i rows hb
   cases h
   by_cases hlt:c<len+news.length
   ·obtain⟨v,w',κ,hrun,k1,k1',k2,k3,k4⟩:=grow (H.set n none) (Hf H n) hlt
    exact Out.of_run hrun (Jf k1 (by omega) k1') k2 k3 k4
   ·obtain⟨cs,cs',e',fz,w',hrun,rfl,h1,h2,h3,h4,h5,h6,h7,h8,h9,h10⟩:=room rows hb (by omega)
    have holds':olds=(rows.drop 0).take len∧0+len≤rows.length:=by
     simp only[QH,hb]at holds
     split at holds
     ·rename_i hle;cases holds;exact⟨rfl,hle⟩
     ·cases holds
    have hmul:(0+len+news.length)*L.size≤(0+c)*L.size:=Nat.mul_le_mul_right _ (by omega)
    have hrb:Zf (ι.put m ⟨L.g,L.base+0*L.size,L.size,L.phys,L.ty⟩) (w.setRow L.g cs') ⟨L.g,L.base+0*L.size,L.size,L.phys,L.ty⟩ (.cells (olds++news) false):=by
     have hty':(∀t,L.ty=some t→t=e')∧fz.1≤fz.2:=by
      obtain⟨L',hL',hB⟩:=hH.blk n _ hb
      obtain rfl:L=L':=by rw[hL]at hL';exact Option.some.inj hL'
      exact hB.ty h1
     refine Zf.mk h2 (by simp only;omega) ?_ ?_ (fun _=>h7) hty'
     ·simp only[hnl]
      have:0*L.size+(len+news.length)*L.size=(0+len+news.length)*L.size:=by rw[←Nat.add_mul];congr 1;omega
      omega
     ·refine(QE.append ?_ ?_).mono (Inj.le_put _ hm)
      ·rw[holds'.1]
       refine((h5.drop 0).take len).keep (fun i _ hi=>h8 i (.inl ?_))
       have:((rows.drop 0).take len).length=len:=by simp;omega
       rw[this]at hi
       have:0*L.size+len*L.size=(0+len)*L.size:=by rw[←Nat.add_mul]
       omega
      ·rw[o1]
       have:L.base+0*L.size+len*L.size=L.base+(0+len)*L.size:=by rw[Nat.add_mul];omega
       simp only[this]
       exact h9
    obtain⟨s1,s2⟩:=Mx (w':=w.setRow L.g cs') (M:=⟨L.g,L.base+0*L.size,L.size,L.phys,L.ty⟩) hH hb rfl hL hm rfl (by simp) (fun g hg=>setRow_other w L.g g _ hg) rfl rfl rfl hrb
    refine Out.of_run hrun (κ:=ι.put m ⟨L.g,L.base+0*L.size,L.size,L.phys,L.ty⟩) ?_ s1 s2 (fun k M hk=>?_)
    ·refine Jf (.slice m 0 (len+news.length) sz none _ a c (Inj.put_same _ _ _) hsz (.inr (by rw[h10];simp)) (by omega) ?_ hmm (fun k hk=>by cases hk)) (by omega) (fun M hM=>?_)
     ·simp only[Nat.zero_add]
      rw[Nat.add_mul]at hp
      omega
     ·rw[Inj.put_same]at hM
      cases hM
      obtain⟨q1,q2⟩:=hty0 L hL
      exact⟨q1,by simp only[q2,Nat.zero_mul]⟩
    ·by_cases ek:k=m
     ·rw[ek,Inj.put_same]at hk
      cases hk
      exact .inr ⟨ek,by simpa using hl n L hL⟩
     ·rw[Inj.put_ne _ _ ek]at hk
      exact .inl hk
 |_=>cases h
end
end Go.Av
end
end
section
set_option linter.unusedVariables false
set_option linter.unusedSimpArgs false
noncomputable section
namespace Go.Av
section
variable {P:Program} {tt:TT} {ι:Inj} {w:World} {H:Heap} {m:Nat}
theorem EX[Syms](htt:TT.ok P tt){argTypes:Array TypeId}{ty:TypeId}{x z:AVal}{v:Value}(hx:RelV ι x v)(h:OB tt argTypes x=some z):∃r,(Builtin.len_ argTypes ty #[v]).run P w= .ok r w∧RelV ι z r:=by
 unfold OB at h
 split at h
 ·rename_i s h0
  obtain⟨t,h1,h2⟩:=Option.bind_eq_some_iff.1 h0
  obtain⟨d,i,hd,hi,hk,_⟩:=Qk htt h2
  obtain rfl:=(Qg hk).2.2.1 rfl
  cases h
  cases hx
  exact⟨.int .i64 s.length,by simp[Builtin.len_,h1,run_underlying hd,goInt,J2],.int _ _⟩
 ·rename_i e _ _ _ h0
  obtain⟨t,h1,h2⟩:=Option.bind_eq_some_iff.1 h0
  obtain⟨d,i,hd,hi,hk,_⟩:=Qk htt h2
  obtain rfl:=(Qg hk).2.2.2.1 _ rfl
  cases h
  cases hx
  exact⟨.int .i64 0,by simp[Builtin.len_,h1,run_underlying hd,goInt],.int _ _⟩
 ·rename_i e _ _ _ n off len sz cap h0
  obtain⟨t,h1,h2⟩:=Option.bind_eq_some_iff.1 h0
  obtain⟨d,i,hd,hi,hk,_⟩:=Qk htt h2
  obtain rfl:=(Qg hk).2.2.2.1 _ rfl
  cases h
  obtain⟨L,a,c,_,_,_,_,_,_,_,rfl⟩:=hx.of_slice
  exact⟨.int .i64 len,by simp[Builtin.len_,h1,run_underlying hd,goInt],.int _ _⟩
 ·rename_i e _ _ _ sz rows h0
  obtain⟨t,h1,h2⟩:=Option.bind_eq_some_iff.1 h0
  obtain⟨d,i,hd,hi,hk,_⟩:=Qk htt h2
  obtain rfl:=(Qg hk).2.2.2.1 _ rfl
  cases h
  obtain⟨a,c,rfl⟩:=hx.vs_len
  exact⟨.int .i64 rows.length,by simp[Builtin.len_,h1,run_underlying hd,goInt],.int _ _⟩
 ·rename_i e _ _ _ sz h0
  obtain⟨t,h1,h2⟩:=Option.bind_eq_some_iff.1 h0
  obtain⟨d,i,hd,hi,hk,_⟩:=Qk htt h2
  obtain rfl:=(Qg hk).2.2.2.1 _ rfl
  cases h
  obtain⟨a,rfl⟩:=hx.of_zs
  exact⟨.int .i64 0,by simp[Builtin.len_,h1,run_underlying hd,goInt],.int _ _⟩
 ·rename_i h0
  obtain⟨t,h1,h2⟩:=Option.bind_eq_some_iff.1 h0
  obtain⟨d,i,hd,hi,hk,_⟩:=Qk htt h2
  obtain rfl:=(Qg hk).2.2.2.2.1 _ _ rfl
  cases h
  refine⟨_,?_,.int _ _⟩
  simp[Builtin.len_,h1,run_underlying hd,goInt]
 ·cases h
theorem CL[Syms]{a b z:AVal}{v u:Value}(hx:RelV ι a v)(hy:RelV ι b u)(h:Np a b=some z){at':Array TypeId}{ty:TypeId}:∃r,(Builtin.min_ at' ty #[v,u]).run P w= .ok r w∧RelV ι z r:=by
 unfold Np at h
 split at h
 ·rename_i k x k' y
  cases h
  obtain rfl:=hx.of_int
  obtain rfl:=hy.of_int
  exact⟨_,by simp[Builtin.min_,Builtin.min2],.int _ _⟩
 ·cases h
theorem CM[Syms]{a b z:AVal}{v u:Value}(hx:RelV ι a v)(hy:RelV ι b u)(h:Nq a b=some z){at':Array TypeId}{ty:TypeId}:∃r,(Builtin.max_ at' ty #[v,u]).run P w= .ok r w∧RelV ι z r:=by
 unfold Nq at h
 split at h
 ·rename_i k x k' y
  cases h
  obtain rfl:=hx.of_int
  obtain rfl:=hy.of_int
  exact⟨_,by simp[Builtin.max_,Builtin.max2],.int _ _⟩
 ·cases h
theorem CK[Syms](hH:RelH ι H w){x:AVal}{v:Value}{r:Res}{ty:TypeId}(hx:RelV ι x v)(h:Do H x=some r):Out ι H w m r ((do let v←Instr.next v true ty;pure (.value v):Sem Next).run P w):=by
 unfold Do at h
 split at h
 ·rename_i n
  split at h
  ·rename_i s pos hb
   cases hx with
   |obj n L hL=>
   obtain⟨L',hL',hB⟩:=hH.blk n _ hb
   obtain rfl:L=L':=by rw[hL]at hL';exact Option.some.inj hL'
   simp only[Zf]at hB
   have hlt:L.g<w.heap.size:=(Array.getElem?_eq_some_iff.1 hB).1
   have hget:(getObj L.g).run P w= .ok (.stringIter ⟨⟨s⟩⟩ pos) w:=by simp[getObj,Sem.run,hB]
   split at h
   ·rename_i hp
    cases h
    have hset:(setObj L.g (.stringIter ⟨⟨s⟩⟩ (pos+(Utf8.decode ⟨⟨s⟩⟩ pos).2))).run P w= .ok () {w with heap:=w.heap.setIfInBounds L.g (.stringIter ⟨⟨s⟩⟩ (pos+(Utf8.decode ⟨⟨s⟩⟩ pos).2))}:=by simp[setObj,Sem.run,hB]
    obtain⟨s1,s2⟩:=Up (w':={w with heap:=w.heap.setIfInBounds L.g (.stringIter ⟨⟨s⟩⟩ (pos+(Utf8.decode ⟨⟨s⟩⟩ pos).2))}) (b':=.iter s (pos+(Utf8.decode ⟨⟨s⟩⟩ pos).2)) hH hb rfl hL (by simp)
     (fun g hg=>by simp[Array.getElem?_setIfInBounds,Ne.symm hg]) rfl rfl rfl (by simp[Zf,hlt]) rfl
    have hp':pos<(ByteArray.mk ⟨s⟩).size:=hp
    refine Out.of_run (κ:=ι) (v:=.tuple #[.bool true,.int .i64 pos,.int .i32 (Utf8.decode ⟨⟨s⟩⟩ pos).1]) ?_ ?_ s1 s2 (fun _ _ h=>.inl h)
    ·simp only[Instr.next,Sem.run_bind,Sem.run_pure,Result.andThen_ok,hget,hp',if_true,hset,goInt]
    ·exact .mk_tup (.cons (.bool _) (.cons (.int _ _) (.cons (.int _ _) (.nil ι))))
   ·rename_i hp
    cases h
    have hp':¬pos<(ByteArray.mk ⟨s⟩).size:=hp
    refine Out.val (v:=.tuple #[.bool false]) hH ?_ (.mk_tup (.cons (.bool _) (.nil ι)))
    simp only[Instr.next,Sem.run_bind,Sem.run_pure,Result.andThen_ok,hget,hp',if_false]
  ·cases h
 ·cases h
theorem Out.of_val[Syms]{x:AVal}{X:Sem Value}(hH:RelH ι H w)(h:∃r,X.run P w= .ok r w∧RelV ι x r):Out ι H w m (.val x) ((do let v←X;pure (.value v):Sem Next).run P w):=by
 obtain⟨r,h1,h2⟩:=h
 exact Out.val hH (by simp only[Sem.run_bind,h1,Result.andThen_ok,Sem.run_pure]) h2
theorem EZ[Syms](htt:TT.ok P tt){argTypes:Array TypeId}{ty:TypeId}{x z:AVal}{v:Value}(hx:RelV ι x v)(h:PL tt argTypes x=some z):∃r,(Builtin.cap_ argTypes ty #[v]).run P w= .ok r w∧RelV ι z r:=by
 unfold PL at h
 split at h
 ·rename_i e _ _ _ h0
  obtain⟨t,h1,h2⟩:=Option.bind_eq_some_iff.1 h0
  obtain⟨d,i,hd,hi,hk,_⟩:=Qk htt h2
  obtain rfl:=(Qg hk).2.2.2.1 _ rfl
  cases h
  cases hx
  exact⟨.int .i64 0,by simp[Builtin.cap_,h1,run_underlying hd,goInt],.int _ _⟩
 ·rename_i e _ _ _ n off len sz c h0
  obtain⟨t,h1,h2⟩:=Option.bind_eq_some_iff.1 h0
  obtain⟨d,i,hd,hi,hk,_⟩:=Qk htt h2
  obtain rfl:=(Qg hk).2.2.2.1 _ rfl
  cases h
  obtain⟨L,a,c',_,_,_,_,_,_,hcap,rfl⟩:=hx.of_slice
  obtain rfl:=hcap _ rfl
  exact⟨.int .i64 c',by simp[Builtin.cap_,h1,run_underlying hd,goInt],.int _ _⟩
 ·cases h
theorem Bg{argTypes:Array TypeId}{ty t e xt:TypeId}{i:TypeInfo}{z:Value}{k:IntKind}(a0:argTypes[0]?=some t)(a1:argTypes[1]?=some xt)(ht:P.underlying t=some (.slice e))(hxt:P.underlying xt=some (.int k))(hi:P.info? e=some i)(hz:i.zero=some z)
 {n:Nat} (h0:0<n) (hs:n*i.size≠0) (h2:n*i.bytes≤140737488355328) (h3:n≤140737488355328):
 (Builtin.append_ argTypes ty #[.slice none 0 0,.int .i64 n]).run P w= .ok (.slice (some ⟨w.heap.size,0,none⟩) n (grownCap w n 0 e))
   {w with drawn:=w.drawn+1,heap:=w.heap.push (.cells (Builtin.zeroCells z.cells n++Builtin.zeroCells z.cells (grownCap w n 0 e-n)) e)}:=by
 have hw:IntKind.i64.wrap (n:Int)=n:=IntWalk.i64_in n (by omega)
 have hn:¬(n≤0):=by omega
 have t1:¬((n:Int)<0):=by omega
 have t2:¬((281474976710656:Int)<(n:Int)*i.bytes):=by
  have h2':n*i.bytes≤140737488355328:=h2
  rw[←Int.natCast_mul];omega
 have t3:¬((9223372036854775807:Int)<(n:Int)):=by omega
 have h48:Builtin.nextslicecap n 0*i.bytes≤281474976710656:=by
  have:Builtin.nextslicecap n 0=n:=by unfold Builtin.nextslicecap;rw[if_pos (by omega)]
  rw[this];omega
 have h48':¬(281474976710656<Builtin.nextslicecap n 0*i.bytes):=by omega
 have hfin:w.drew.alloc (.cells (Builtin.zeroCells z.cells n++Builtin.zeroCells z.cells (grownCap w n 0 e-n)) e)=
  {w with drawn:=w.drawn+1,heap:=w.heap.push (.cells (Builtin.zeroCells z.cells n++Builtin.zeroCells z.cells (grownCap w n 0 e-n)) e)}:=rfl
 rw[←hfin]
 simp[Builtin.append_,Builtin.firstCells,a0,a1,run_underlying ht,run_underlying hxt,sizeOf,typeInfo,zeroValue,hi,hz,asInt,asIntOf,hw,hn,(show ¬n=0 by omega),t1,t2,t3,hs,h48',Question.forced,newRow,grownCap]
theorem Ff[Syms](htt:TT.ok P tt)(hH:RelH ι H w)(hl:Kj ι w)(hm:ι m=none){argTypes:Array TypeId}{ty:TypeId}{s x:AVal}{vs vx:Value}{r:Res}(hs:RelV ι s vs)(hx:RelV ι x vx)
 (h:Fg tt m argTypes s x=some r):Out ι H w m r ((do let v←Builtin.append_ argTypes ty #[vs,vx];pure (.value v):Sem Next).run P w):=by
 unfold Fg at h
 split at h
 ·rename_i e _ _ _ k _ _ _ n h0 h1
  obtain⟨t,h2,h3⟩:=Option.bind_eq_some_iff.1 h0
  obtain⟨xt,h4,h5⟩:=Option.bind_eq_some_iff.1 h1
  obtain⟨d,i,hd,hi,hk,_⟩:=Qk htt h3
  obtain rfl:=(Qg hk).2.2.2.1 _ rfl
  obtain⟨d',i',hd',hi',hk',_⟩:=Qk htt h5
  obtain rfl:=(Qg hk').1 _ rfl
  split at h
  ·rename_i ety hety
   obtain⟨ed,ei,hed,hei,hek,hes,heb,hez,_⟩:=Qk htt hety
   split at h
   ·rename_i hc
    obtain⟨c1,c2,c3,c4,c5,c6⟩:=hc
    cases h
    cases hs
    obtain rfl:=hx.of_int
    obtain⟨q,rfl⟩:∃q:Nat,n=q:=⟨n.toNat,by omega⟩
    obtain⟨z,hz1,hz2⟩:=hez.resolve_right (fun e=>by rw[e]at c4;simp[AVal.cells,Qw,AVal.leaf]at c4)
    obtain⟨hrel,hone⟩:=Zy hz2 c4 ι
    have hzl:z.cells.toList.length=ety.size:=by rw[←hrel.1,c3]
    have hzs:z.cells.size=ety.size:=by simpa using hzl
    have hcyc:=GI hrel (by omega) q
    have hcone:=B1 (by omega) hone (q*z.cells.toList.length)
    rw[hzl]at hcyc hcone
    have hrep:∀q:Nat,(List.replicate q ety.zero.cells).flatten=Qt ety.zero.cells q:=fun q=>by
     induction q with
     |zero=>rfl
     |succ n ih=>simp only[List.replicate_succ,List.flatten_cons,Qt];rw[ih]
    have hcs:Builtin.zeroCells z.cells q=((List.range (q*ety.size)).map fun i=>z.cells.toList[i%ety.size]!).toArray:=by
     unfold Builtin.zeroCells
     rw[B2,hzs]
    have c5':q*ei.bytes≤140737488355328:=by rw[heb];have:=c5;omega
    have hrun:=Bg (P:=P) (w:=w) (ty:=ty) h2 h4 hd hd' hei hz1 (n:=q) (by omega) (by rw[hes];exact Nat.mul_ne_zero (by omega) (by omega)) c5' (by omega)
    rw[hcs]at hrun
    obtain⟨g1,g2⟩:=We (w:=w) (need:=q) (old:=0) (e:=e) (by omega)
    obtain⟨κ,k1,k2,k3,k4,_⟩:=Wc (e:=e) (zs:=Builtin.zeroCells z.cells (grownCap w q 0 e-q)) hH (sub_self H) hl hm (rows:=List.replicate q ety.zero.cells) (us:=(List.range (q*ety.size)).map fun i=>z.cells.toList[i%ety.size]!) (size:=ety.size) (need:=q) (by rw[hrep q];exact hcyc) (fun r hr=>by rw[(List.mem_replicate.1 hr).2,c3]) hcone (by simp) g1 g2 (Ya hzs)
    refine Out.of_run hrun (κ:=κ) ?_ ?_ ?_ ?_
    ·simpa[Res.v]using k1
    ·simpa[Res.heap]using k2
    ·simpa[Res.heap]using k3
    ·simpa using k4
   ·cases h
  ·cases h
 ·cases h
theorem Ma[Syms]{ρ:Operand→AVal}{σ:Operand→Value}(hev:∀x,RelV ι (ρ x) (σ x))(x:Option Operand):CQ ι (x.map ρ) (x.map σ):=by
 cases x with
 |none=>trivial
 |some a=>exact hev a
theorem IJ[Syms](htt:TT.ok P tt){op:BinOp}{t:TypeId}{ox oy:Operand}{a b z:AVal}{v u:Value}(hx:RelV ι a v)(hy:RelV ι b u)(h:Un tt op t a b=some z):
 ∃r,(do eqGuard op t ox oy v u;binOp op t v u:Sem Value).run P w= .ok r w∧RelV ι z r:=by
 have guard:∀{r:Value},(∀xs,v≠ .agg xs)→v≠ .nilIface→(binOp op t v u).run P w= .ok r w→(do eqGuard op t ox oy v u;binOp op t v u:Sem Value).run P w= .ok r w:=by
  intro r h1 h2 h3
  have hg:(eqGuard op t ox oy v u).run P w= .ok () w:=by
   unfold eqGuard
   cases v<;>first|(exact absurd rfl h2)|(exact absurd rfl (h1 _))|(cases op<;>rfl)
  simp only[Sem.run_bind,hg,Result.andThen_ok,h3]
 unfold Un at h
 split at h
 ·rename_i z' hz
  cases h
  cases hx
  case int k a=>
   cases hy
   case int k' b=>obtain⟨r,h1,h2⟩:=CP (P:=P) (w:=w) (ι:=ι) hz;exact⟨r,guard (by simp) (by simp) h1,h2⟩
   all_goals(simp[Yn]at hz)
  case str s=>
   cases hy
   case str s'=>obtain⟨r,h1,h2⟩:=Nr (P:=P) (w:=w) (ι:=ι) hz;exact⟨r,guard (by simp) (by simp) h1,h2⟩
   all_goals(simp[Yn]at hz)
  case bool x=>
   cases hy
   case bool y=>obtain⟨r,h1,h2⟩:=Q04 (P:=P) (w:=w) (ι:=ι) htt hz;exact⟨r,guard (by simp) (by simp) h1,h2⟩
   all_goals(simp[Yn]at hz)
  all_goals(simp[Yn]at hz)
 split at h
 ·rename_i z' hz
  cases h
  unfold R5 at hz
  split at hz
  ·rename_i i j _
   split at hz
   ·rename_i hij
    obtain rfl:=Nat.eq_of_beq_eq_true hij
    cases hx
    cases hy
    obtain⟨x,hv⟩:=Syms.int i
    rw[hv]
    have:=fun z hz=>CP (P:=P) (w:=w) (ι:=ι) (tt:=tt) (op:=op) (t:=t) (k:=.i64) (k':=.i64) (a:=x) (b:=x) (z:=z) hz
    rw[hv]at guard
    split at hz
    all_goals(try cases hz)
    ·obtain⟨r,h1,h2⟩:=this (.bool true) (by simp[Yn]);exact⟨r,guard (by simp) (by simp) h1,h2⟩
    ·obtain⟨r,h1,h2⟩:=this (.bool true) (by simp[Yn]);exact⟨r,guard (by simp) (by simp) h1,h2⟩
    ·obtain⟨r,h1,h2⟩:=this (.bool true) (by simp[Yn]);exact⟨r,guard (by simp) (by simp) h1,h2⟩
    ·obtain⟨r,h1,h2⟩:=this (.bool false) (by simp[Yn]);exact⟨r,guard (by simp) (by simp) h1,h2⟩
    ·obtain⟨r,h1,h2⟩:=this (.bool false) (by simp[Yn]);exact⟨r,guard (by simp) (by simp) h1,h2⟩
    ·obtain⟨r,h1,h2⟩:=this (.bool false) (by simp[Yn]);exact⟨r,guard (by simp) (by simp) h1,h2⟩
   ·cases hz
  ·cases hz
 ·have ne:∀{b':Bool},IQ tt t a b=some b'→(∀xs,v≠ .agg xs)∧v≠ .nilIface:=by
   intro b' hb
   cases hx<;>first|(exfalso;simp[IQ]at hb;done)|exact⟨by simp,by simp⟩
  split at h
  ·rw[Option.map_eq_some_iff]at h
   obtain⟨b',hb,rfl⟩:=h
   exact⟨.bool b',guard (ne hb).1 (ne hb).2 (F6 htt hx hy hb).1,.bool _⟩
  ·rw[Option.map_eq_some_iff]at h
   obtain⟨b',hb,rfl⟩:=h
   exact⟨.bool (!b'),guard (ne hb).1 (ne hb).2 (F6 htt hx hy hb).2,.bool _⟩
  ·cases h
end
end Go.Av
end
end
section
set_option linter.unusedVariables false
set_option linter.unusedSimpArgs false
noncomputable section
namespace Go.Av
section
variable {P:Program} {tt:TT} {ι:Inj} {w:World} {H:Heap} {m:Nat}
theorem RelV.of_bool[Syms]{b:Bool}{v:Value}(h:RelV ι (.bool b) v):v= .bool b:=by cases h;rfl
theorem RelV.of_str[Syms]{s:List UInt8}{v:Value}(h:RelV ι (.str s) v):v= .string ⟨⟨s⟩⟩:=by cases h;rfl
theorem Fc[Syms](htt:TT.ok P tt)(hH:RelH ι H w)(hl:Kj ι w)(hm:ι m=none){ρ:Operand→AVal}{σ:Operand→Value}(hev:∀x,RelV ι (ρ x) (σ x)){b:Builtin}{args:Array Operand}{argTypes:Array TypeId}{ty:TypeId}{consts:Array Bool}{r:Res}
 (h:WF tt H m b argTypes (args.toList.map ρ)=some r):Out ι H w m r ((builtin b argTypes ty consts (args.map σ)).run P w):=by
 obtain⟨l⟩:=args
 have hargs:(Array.mk l).map σ=⟨l.map σ⟩:=by simp
 rw[hargs]
 simp only at h
 unfold WF at h
 split at h
 ·rename_i x hx
  match l,hx with
  |[x0],hx=>
   simp only[List.map_cons,List.map_nil,List.cons.injEq,and_true]at hx
   subst hx
   rw[Option.map_eq_some_iff]at h
   obtain⟨z,hz,rfl⟩:=h
   exact Out.of_val hH (EX htt (hev _) hz)
 ·rename_i s x hx
  match l,hx with
  |[s0,x0],hx=>
   simp only[List.map_cons,List.map_nil,List.cons.injEq,and_true]at hx
   obtain⟨rfl,rfl⟩:=hx
   split at h
   ·rename_i r' hr'
    cases h
    exact Fr htt hH hl hm (hev _) (hev _) hr'
   ·exact Ff htt hH hl hm (hev _) (hev _) h
 ·rename_i s x hx
  match l,hx with
  |[s0,x0],hx=>
   simp only[List.map_cons,List.map_nil,List.cons.injEq,and_true]at hx
   obtain⟨rfl,rfl⟩:=hx
   rw[Option.map_eq_some_iff]at h
   obtain⟨z,hz,rfl⟩:=h
   exact Out.of_val hH (CL (hev _) (hev _) hz)
 ·rename_i s x hx
  match l,hx with
  |[s0,x0],hx=>
   simp only[List.map_cons,List.map_nil,List.cons.injEq,and_true]at hx
   obtain⟨rfl,rfl⟩:=hx
   rw[Option.map_eq_some_iff]at h
   obtain⟨z,hz,rfl⟩:=h
   exact Out.of_val hH (CM (hev _) (hev _) hz)
 ·rename_i x hx
  match l,hx with
  |[x0],hx=>
   simp only[List.map_cons,List.map_nil,List.cons.injEq,and_true]at hx
   subst hx
   rw[Option.map_eq_some_iff]at h
   obtain⟨z,hz,rfl⟩:=h
   exact Out.of_val hH (EZ htt (hev _) hz)
 ·cases h
theorem JV[Syms](htt:TT.ok P tt)(hH:RelH ι H w)(hl:Kj ι w)(hm:ι m=none){ρ:Operand→AVal}{σ:Operand→Value}(hev:∀x,RelV ι (ρ x) (σ x)){o:Oper}{r:Res}
 (h:aop tt ρ H m o.op=some r):Out ι H w m r ((execOp σ o).run P w):=by
 unfold execOp
 cases ho:o.op<;>rw[ho]at h<;>simp only[aop]at h<;>simp only
 case move x=>cases h;exact Out.val hH rfl (hev _)
 case assign x=>cases h;exact Out.val hH rfl (hev _)
 case pick c a b=>
  split at h
  ·rename_i t hc
   cases h
   have hcv:=hev c
   rw[hc]at hcv
   have hcv':σ c= .bool t:=hcv.of_bool
   refine Out.val (v:=if t then σ a else σ b) hH ?_ ?_
   ·simp only[Sem.run_bind,hcv',asBool,Sem.run_pure,Result.andThen_ok]
   ·have ha:=hev a
    have hb:=hev b
    split
    ·rename_i x y hx hy
     rw[hx]at ha
     rw[hy]at hb
     have e1:σ a= .bool x:=ha.of_bool
     have e2:σ b= .bool y:=hb.of_bool
     rw[e1,e2]
     cases t
     ·exact .bool y
     ·exact .bool x
    ·cases t
     ·exact hb
     ·exact ha
  ·cases h
 case alloc e=>
  split at h
  ·rename_i ty hty
   split at h
   ·rename_i hc
    cases h
    obtain⟨d,i,hd,hi,hk,hsz,_,hz,_⟩:=Qk htt hty
    obtain⟨z,hz1,hz2⟩:=hz.resolve_right (fun e=>by rw[e]at hc;simp[AVal.cells,Qw,AVal.leaf]at hc)
    refine IF (x:=ty.zero) (v:=z) (e:=e) hH hl hm (Zy hz2 hc ι) ?_
    simp only[Instr.alloc,Sem.run_bind,Dr hi hz1,Result.andThen_ok,newVar,newRow,run_newObj,Sem.run_pure]
   ·cases h
  ·cases h
 case box e x=>
  split at h
  ·rename_i hc
   cases h
   refine ES (x:=ρ x) (v:=σ x) (e:=e) hH hl hm ((hev x).cells (by simpa[Qw]using hc)) ?_
   simp only[Instr.box,Sem.run_bind,Result.andThen_ok,newVar,newRow,run_newObj,Sem.run_pure]
  ·cases h
 case build t parts=>
  rw[Option.map_eq_some_iff]at h
  obtain⟨z,hz,rfl⟩:=h
  exact Out.of_val hH (Bq htt hev hz)
 case buildSlice t len parts=>exact Jb htt hH hl hm hev h
 case load t x=>
  rw[Option.map_eq_some_iff]at h
  obtain⟨z,hz,rfl⟩:=h
  exact Out.of_val hH (Gq htt hH (hev _) hz)
 case store t x v=>
  rw[Option.map_eq_some_iff]at h
  obtain⟨H',hz,rfl⟩:=h
  obtain⟨w',h1,h2,h3⟩:=Be htt hH (hev _) (hev _) hz
  exact⟨undef,w',ι,.inr ⟨by simp only[Sem.run_bind,h1,Result.andThen_ok,Sem.run_pure],rfl⟩,.any _,h2,h3,fun _ _ h=>.inl h,fun _=>rfl⟩
 case nilCheck x=>
  split at h
  ·rename_i n k j hx
   cases h
   have hv:=hev x
   rw[hx]at hv
   obtain⟨L,hL,he⟩:=hv.of_ptr
   rw[he]
   exact Out.val hH rfl (.ptr _ _ _ L hL)
  ·rename_i row j hx
   cases h
   have hv:=hev x
   rw[hx]at hv
   obtain⟨g,b,cs,h1,h2,h3,h4,he⟩:=hv.of_vp
   rw[he]
   exact Out.val hH rfl (.vp _ _ g b cs h1 h2 h3 h4)
  ·rename_i f cs hx
   cases h
   have hv:=hev x
   rw[hx]at hv
   generalize σ x=v at hv
   cases hv with
   |func _ _ vs hf2 hl2 h2=>exact Out.val hH rfl (.func _ _ vs hf2 hl2 h2)
   |bfunc f' _ vs hl2 h2=>exact Out.val hH rfl (.bfunc f' _ vs hl2 h2)
  ·cases h
 case binOp op t x y ty=>
  split at h
  ·rename_i xs ys hx hy
   have hv:=hev x
   have hu:=hev y
   rw[hx]at hv
   rw[hy]at hu
   split at h
   ·rw[Option.map_eq_some_iff]at h
    obtain⟨b,hb,rfl⟩:=h
    obtain⟨g1,g2,_⟩:=Gr (w:=w) htt hv hu hb .eql x y
    exact Out.of_val hH ⟨.bool b,by simp only[Sem.run_bind,g1,Result.andThen_ok,g2],.bool _⟩
   ·rw[Option.map_eq_some_iff]at h
    obtain⟨b,hb,rfl⟩:=h
    obtain⟨g1,_,g2⟩:=Gr (w:=w) htt hv hu hb .neq x y
    exact Out.of_val hH ⟨.bool (!b),by simp only[Sem.run_bind,g1,Result.andThen_ok,g2],.bool _⟩
   ·cases h
  ·rw[Option.map_eq_some_iff]at h
   obtain⟨z,hz,rfl⟩:=h
   exact Out.of_val hH (IJ htt (hev x) (hev y) hz)
 case unOp op t x=>
  rw[Option.map_eq_some_iff]at h
  obtain⟨z,hz,rfl⟩:=h
  exact Out.of_val hH (CH (hev _) hz)
 case convert src dst x=>exact Fb htt hH hl hm (hev _) h
 case makeFunc fn first caps=>
  cases fn<;>simp only at h
  case func f=>
   split at h
   ·rename_i h0
    obtain⟨l⟩:=first
    have:l=[]:=List.eq_nil_of_length_eq_zero h0
    subst this
    cases hf:Nat.ble BND f with
    |true=>rw[hf]at h;cases h
    |false=>
    rw[hf]at h
    cases h
    refine Out.val (v:=.func (.func f) #[] ⟨caps.toList.map σ⟩) hH ?_ ?_
    ·have e:caps.map σ=⟨caps.toList.map σ⟩:=by apply Array.ext';simp
     have e0:(Array.mk ([]:List Operand)).map σ= #[]:=by apply Array.ext';simp
     simp only[Instr.makeFunc,Sem.run_bind,Sem.run_pure,Result.andThen_ok,e,e0]
    ·refine .func f _ _ hf (by simp) (fun i c v h1 h2=>?_)
     rw[List.getElem?_map,Option.map_eq_some_iff]at h1 h2
     obtain⟨x,hx,rfl⟩:=h1
     obtain⟨y,hy,rfl⟩:=h2
     rw[hx]at hy
     cases hy
     exact hev x
   ·cases hz:Nat.beq caps.size 0 with
    |false=>rw[hz]at h;cases h
    |true=>
    rw[hz]at h
    cases h
    obtain⟨l⟩:=caps
    have:l=[]:=List.eq_nil_of_length_eq_zero (Nat.eq_of_beq_eq_true hz)
    subst this
    refine Out.val (v:=.func (.func f) ⟨first.toList.map σ⟩ #[]) hH ?_ ?_
    ·have e:first.map σ=⟨first.toList.map σ⟩:=by apply Array.ext';simp
     have e0:(Array.mk ([]:List Operand)).map σ= #[]:=by apply Array.ext';simp
     simp only[Instr.makeFunc,Sem.run_bind,Sem.run_pure,Result.andThen_ok,e,e0]
    ·refine .bfunc f _ _ (by simp) (fun i c v h1 h2=>?_)
     rw[List.getElem?_map,Option.map_eq_some_iff]at h1 h2
     obtain⟨x,hx,rfl⟩:=h1
     obtain⟨y,hy,rfl⟩:=h2
     rw[hx]at hy
     cases hy
     exact hev x
  all_goals cases h
 case makeSlice t l c=>exact JW htt hH hl hm (hev _) (hev _) h
 case slice t x lo hi mx=>
  rw[Option.map_eq_some_iff]at h
  obtain⟨z,hz,rfl⟩:=h
  exact Out.of_val hH (Bf htt (hev _) (Ma hev lo) (Ma hev hi) (Ma hev mx) hz)
 case fieldAddr s x f=>
  rw[Option.map_eq_some_iff]at h
  obtain⟨z,hz,rfl⟩:=h
  exact Out.of_val hH (JZ htt (hev _) hz)
 case field s x f=>
  rw[Option.map_eq_some_iff]at h
  obtain⟨z,hz,rfl⟩:=h
  exact Out.of_val hH (Bp htt (hev _) hz)
 case indexAddr t x ix=>
  rw[Option.map_eq_some_iff]at h
  obtain⟨z,hz,rfl⟩:=h
  exact Out.of_val hH (JX htt (hev _) (hev _) hz)
 case index t x ix=>
  rw[Option.map_eq_some_iff]at h
  obtain⟨z,hz,rfl⟩:=h
  exact Out.of_val hH (Bn htt (hev _) (hev _) hz)
 case range t x=>
  split at h
  ·rename_i s hty hx
   cases h
   obtain⟨d,i,hd,hi,hk,_⟩:=Qk htt hty
   obtain rfl:=(Qg hk).2.2.1 rfl
   have hv:=hev x
   rw[hx]at hv
   have he:σ x= .string ⟨⟨s⟩⟩:=hv.of_str
   refine Out.new (L:=⟨w.heap.size,0,0,0,none⟩) (o:=.stringIter ⟨⟨s⟩⟩ 0) (w':={w with heap:=w.heap.push (.stringIter ⟨⟨s⟩⟩ 0)}) (v:=.pointer (some ⟨w.heap.size,0,none⟩)) hH hl hm ?_ rfl rfl rfl rfl rfl (by simp[Zf]) (.obj m _ (Inj.put_same _ _ _))
   simp only[Instr.range,Sem.run_bind,run_underlying hd,Result.andThen_ok,he,Sem.run_pure,run_newObj]
  ·cases h
 case next it s=>
  cases s<;>simp only at h
  ·cases h
  ·exact CK hH (hev _) h
 case extract t ix=>
  split at h
  ·rename_i vs hx
   rw[Option.map_eq_some_iff]at h
   obtain⟨z,hz,rfl⟩:=h
   have hv:=hev t
   rw[hx]at hv
   obtain⟨us,he,hl2⟩:=hv.of_tup
   obtain⟨v,h1,h2⟩:=hl2.get hz
   have h1':(⟨us⟩:Array Value)[ix]?=some v:=by simpa using h1
   exact Out.of_val hH ⟨v,by simp only[Instr.extract,he,h1',Sem.run_pure],h2⟩
  ·cases h
 case call c=>
  obtain⟨callee,args,argTypes⟩:=c
  cases callee<;>simp only at h
  case builtin b=>
   have:=Fc (P:=P) (ty:=o.type) (consts:=args.map fun| .const _=>true|_=>false) htt hH hl hm hev h
   simp only[resolve,invoke,Sem.run_bind,Sem.run_pure,Result.andThen_ok]
   exact this
  all_goals cases h
 all_goals(cases h;done)
end
end Go.Av
end
end
section
set_option linter.unusedVariables false
set_option linter.unusedSimpArgs false
noncomputable section
namespace Go.Av
abbrev Env:=List (Nat×AVal)
def Env.get(e:Env)(n:Nat):AVal:=@List.rec (Nat×AVal) (fun _=>AVal) .any (fun p _ ih=>@Bool.rec (fun _=>AVal) ih p.2 (Nat.beq n p.1)) e
theorem Env.get_nil(n:Nat):Env.get [] n= .any:=rfl
theorem Env.get_cons(k:Nat)(v:AVal)(e:Env)(n:Nat):Env.get ((k,v)::e) n=bif Nat.beq n k then v else Env.get e n:=by
 show @Bool.rec (fun _=>AVal) (Env.get e n) v (Nat.beq n k)=_
 cases Nat.beq n k<;>rfl
structure St where
 env:Env
 heap:Heap
 nx:Nat
def undefA:AVal:=.tup []
def St.ev(s:St):Operand→AVal
 | .tmp t=>s.env.get t
 | .const v=>Vl v
 | .global _=>.any
 | .func f=>bif Nat.ble BND f then .any else .func f []
def Env.put(e:Env)(dst:Option Tmp)(v:AVal):Env:=
 match dst with
 |some d=>(d,v)::e
 |none=>e
def Z6(N:Nat):Option Tmp→Bool
 |some d=>Nat.blt d N
 |none=>true
structure RelS[Syms](N:Nat)(ι:Inj)(s:St)(a:Act)(w:World):Prop where
 defers:a.defers=[]
 size:N≤a.tmps.size
 env:∀k,RelV ι (s.env.get k) (a.tmps.getD k undef)
 heap:RelH ι s.heap w
 bound:X1 ι s.nx w
theorem X1.lies{ι:Inj}{nx:Nat}{w:World}(h:X1 ι nx w):Kj ι w:=fun n L hn=>(h n L hn).2
theorem X1.fresh{ι:Inj}{nx m:Nat}{w:World}(h:X1 ι nx w)(hm:nx≤m):ι m=none:=by
 cases hx:ι m with
 |none=>rfl
 |some L=>have:=(h m L hx).1;omega
theorem KS[Syms](ι:Inj)(v:Value):RelV ι (Wx v) v:=by
 unfold Wx
 split
 ·exact .bool _
 ·exact .int _ _
 ·rename_i s
  obtain⟨⟨l⟩⟩:=s
  exact .str l
 ·exact .nilp
 ·exact .nils
 ·exact .nilf
 ·exact .nili
 ·exact .any _
theorem KT[Syms](ι:Inj)(v:Value):RelV ι (Vl v) v:=by
 unfold Vl
 split
 ·rename_i cs
  obtain⟨l⟩:=cs
  refine .mk_agg ⟨by simp,fun i c v h1 h2=>?_⟩
  rw[List.getElem?_map,Option.map_eq_some_iff]at h1
  obtain⟨x,hx,rfl⟩:=h1
  have:x=v:=by rw[show l[i]?=some x from hx]at h2;exact Option.some.inj h2
  subst this
  exact KS ι x
 ·exact KS ι v
theorem RelS.ev[Syms]{N:Nat}{ι:Inj}{s:St}{a:Act}{w:World}(h:RelS N ι s a w)(x:Operand):RelV ι (s.ev x) (a.eval x):=by
 cases x with
 |tmp t=>exact h.env t
 |const v=>exact KT ι v
 |global g=>exact .any _
 |func f=>
  show RelV ι (bif Nat.ble BND f then .any else .func f []) _
  cases hf:Nat.ble BND f with
  |true=>exact .any _
  |false=>exact .func f [] [] hf rfl (by simp)
theorem RelV.undef[Syms](ι:Inj):RelV ι undefA undef:=.mk_tup (.nil ι)
theorem VI[Syms]{N:Nat}{ι κ:Inj}{s:St}{a:Act}{w:World}(h:RelS N ι s a w)(hle:ι.le κ){dst:Option Tmp}(hd:Z6 N dst=true){x:AVal}{v:Value}(hv:RelV κ x v):
 N≤(a.put dst v).tmps.size∧ ∀k,RelV κ ((s.env.put dst x).get k) ((a.put dst v).tmps.getD k undef):=by
 cases dst with
 |none=>exact⟨h.size,fun k=>(h.env k).mono hle⟩
 |some d=>
  have hd':d<N:=by simpa[Z6,Nat.blt_eq]using hd
  have hsz:=h.size
  refine⟨by simpa[Act.put]using hsz,fun k=>?_⟩
  simp only[Env.put,Env.get_nil,Env.get_cons,Act.put]
  by_cases hk:k=d
  ·subst hk
   have:k<a.tmps.size:=Nat.lt_of_lt_of_le hd' hsz
   simpa[this]using hv
  ·rw[Qd hk]
   have:=(h.env k).mono hle
   simpa[Array.getElem?_setIfInBounds_ne (Ne.symm hk)]using this
theorem X6(a:Act)(dst:Option Tmp)(v:Value):(a.put dst v).defers=a.defers:=by cases dst<;>rfl
structure StepN(ι:Inj)(H:Heap)(nx:Nat)(w:World)(κ:Inj)(H':Heap)(nx':Nat)(w':World):Prop where
 st:Step ι H w κ H' w'
 up:nx≤nx'
 fresh:∀n L,κ n=some L→ι n=some L∨nx≤n
theorem StepN.refl[Syms](ι:Inj)(H:Heap)(nx:Nat)(w:World):StepN ι H nx w ι H nx w:=⟨Step.refl ι H w,Nat.le_refl _,fun _ _ h=>.inl h⟩
theorem StepN.trans[Syms]{ι κ μ:Inj}{H H' H'':Heap}{nx nx' nx'':Nat}{w w' w'':World}(h:StepN ι H nx w κ H' nx' w')(k:StepN κ H' nx' w' μ H'' nx'' w''):StepN ι H nx w μ H'' nx'' w'':=
 ⟨h.st.trans k.st,Nat.le_trans h.up k.up,fun n L hn=>by
  rcases k.fresh n L hn with h1|h1
  ·exact h.fresh n L h1
  ·exact .inr (Nat.le_trans h.up h1)⟩
def Y6[Syms](P:Program)(f:FuncId)(args:List AVal)(H:Heap)(nx:Nat)(v:AVal)(H':Heap)(nx':Nat):Prop:=
 ∀(ι:Inj) (w:World) (vs:List Value),Qs ι args vs→RelH ι H w→X1 ι nx w→
  Calls P f ⟨vs⟩ w fun e w'=>∃r κ,e= .returned r∧RelV κ v r∧RelH κ H' w'∧StepN ι H nx w κ H' nx' w'∧X1 κ nx' w'
def UI (P : Program) (f : FuncId) : Prop := ∃ fn, P.funcs[f]? = some fn ∧ (fn.name == "runtime.NumGoroutine") = false ∧ fn.body.isNone = false
theorem UI.call{P:Program}{f:FuncId}(h:UI P f)(args:Array Value)(w:World):(callFunc f args).run P w= .ok (.enter f args) w:=by
 obtain⟨fn,h1,h2,h3⟩:=h
 simp only[callFunc,Sem.run_bind,run_program,Result.andThen_ok,h1,h2,h3,Bool.false_eq_true,if_false,Sem.run_pure]
def Qo(ops:Array Oper)(env:Env)(o:Oper):Option Bool:=
 match o.guard with
 |none=>some true
 |some (j,want)=>
  match(ops[j]?).bind (·.dst)with
  |some d=>match env.get d with
   | .bool b=>some (b == want)
   | .tup []=>some false
   |_=>none
  |none=>some false
theorem Zj[Syms]{ops:Array Oper}{env:Env}{o:Oper}{b:Bool}{ι:Inj}{tmps:Array Value}(he:∀k,RelV ι (env.get k) (tmps.getD k undef))(h:Qo ops env o=some b):Region.wanted o (yielded ops tmps)=b:=by
 unfold Qo at h
 unfold Region.wanted
 cases hg:o.guard with
 |none=>rw[hg]at h;cases h;rfl
 |some g=>
  obtain⟨j,want⟩:=g
  rw[hg]at h
  simp only at h ⊢
  cases hd:(ops[j]?).bind (·.dst)with
  |none=>
   rw[hd]at h
   cases h
   simp[yielded,hd]
  |some d=>
   rw[hd]at h
   simp only at h
   have hv:=he d
   split at h
   ·rename_i b' hb
    cases h
    rw[hb]at hv
    have e:=hv.of_bool
    have:tmps[d]?=some (.bool b'):=by
     rw[Array.getD_eq_getD_getElem?]at e
     cases hx:tmps[d]? with
     |none=>rw[hx]at e;simp[undef]at e
     |some u=>rw[hx]at e;simp at e;rw[e]
    simp[yielded,hd,this]
   ·rename_i hb
    cases h
    rw[hb]at hv
    obtain⟨us,e,hl⟩:=hv.of_tup
    have hus:=hl.unnil
    subst hus
    have:yielded ops tmps j=none:=by
     unfold yielded
     rw[hd]
     rw[Array.getD_eq_getD_getElem?]at e
     cases hx:tmps[d]? with
     |none=>simp[hx]
     |some u=>rw[hx]at e;simp at e;simp[hx,e]
    simp[this]
   ·cases h
def Xd[Syms](P:Program)(N:Nat)(ops:Array Oper)(o:Oper)(s s':St):Prop:=
 ∀(ι:Inj) (a:Act) (w:World) (K:Act→World→Prop) (Q:Exit→Act→World→Prop),RelS N ι s a w→
  (∀κ a' w',RelS N κ s' a' w'→StepN ι s.heap s.nx w κ s'.heap s'.nx w'→K a' w')→
  if Region.wanted o (yielded ops a.tmps)then o.wp P a w K Q∨(o.asks P a w∧LetsOut Q)else K (a.put o.dst undef) w
theorem VB[Syms]{P:Program}{N:Nat}{ops:Array Oper}{o:Oper}{s:St}(hw:Qo ops s.env o=some false)(hd:Z6 N o.dst=true):Xd P N ops o s {s with env:=s.env.put o.dst undefA}:=by
 intro ι a w K Q hS hK
 rw[Zj hS.env hw]
 simp only[Bool.false_eq_true,if_false]
 obtain⟨h1,h2⟩:=VI hS (Inj.le_refl ι) hd (RelV.undef ι)
 exact hK ι _ w ⟨by rw[X6];exact hS.defers,h1,h2,hS.heap,hS.bound⟩ (StepN.refl ι _ _ w)
def Res.next(nx:Nat):Res→Nat
 | .val _=>nx
 | .new _ _| .upd _ _=>nx+1
theorem Ve[Syms]{P:Program}{tt:TT}(htt:TT.ok P tt){N:Nat}{ops:Array Oper}{o:Oper}{s:St}{r:Res}(hw:Qo ops s.env o=some true)(hd:Z6 N o.dst=true)
 (h:aop tt s.ev s.heap s.nx o.op=some r):Xd P N ops o s ⟨s.env.put o.dst r.v,r.heap s.heap s.nx,r.next s.nx⟩:=by
 intro ι a w K Q hS hK
 rw[Zj hS.env hw]
 simp only[if_true]
 left
 obtain⟨v,w',κ,hrun,hv,hH,hst,hb,hval⟩:=JV (P:=P) htt hS.heap hS.bound.lies (hS.bound.fresh (Nat.le_refl _)) hS.ev h
 have fin:K (a.put o.dst v) w':=by
  obtain⟨h1,h2⟩:=VI hS hst.le hd hv
  refine hK κ _ w' ⟨by rw[X6];exact hS.defers,h1,h2,hH,?_⟩ ⟨hst,?_,fun n L hn=>?_⟩
  rotate_left
  ·cases r<;>simp[Res.next]
  ·rcases hb n L hn with h|⟨rfl,h⟩
   ·exact .inl h
   ·exact .inr (Nat.le_refl _)
  -- numbers
  intro n L hn
  cases r with
  |val v0=>
   obtain rfl:=hval rfl
   exact⟨(hS.bound n L hn).1,Nat.lt_of_lt_of_le (hS.bound n L hn).2 hst.size⟩
  |new b v0=>
   rcases hb n L hn with h|⟨rfl,h⟩
   ·exact⟨Nat.lt_succ_of_lt (hS.bound n L h).1,Nat.lt_of_lt_of_le (hS.bound n L h).2 hst.size⟩
   ·exact⟨Nat.lt_succ_self _,h⟩
  |upd h0 v0=>
   rcases hb n L hn with h|⟨rfl,h⟩
   ·exact⟨Nat.lt_succ_of_lt (hS.bound n L h).1,Nat.lt_of_lt_of_le (hS.bound n L h).2 hst.size⟩
   ·exact⟨Nat.lt_succ_self _,h⟩
 unfold Oper.wp
 rcases hrun with hrun|⟨hrun,rfl⟩
 ·rw[hrun];exact fin
 ·rw[hrun];exact fin
end Go.Av
end
end
