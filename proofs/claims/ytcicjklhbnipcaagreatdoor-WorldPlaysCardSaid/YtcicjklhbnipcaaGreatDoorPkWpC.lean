/-
  Laid texts.
-/
import Derived.Test.YtcicjklhbnipcaaGreatDoorPkWpB
import Derived.Deep.Draws
import Derived.Deep.MidRow
import Derived.Deep.RegionHeld3
import Derived.WideAt
import Derived.WideShapes
set_option maxHeartbeats 16000000
set_option maxRecDepth 1000000
set_option linter.unusedVariables false
set_option linter.unusedSimpArgs false
namespace Go.Proofs.YtcicjklhbnipcaaGreatDoor
section
namespace In
/-! ### names -/
def nameSorted(d:List (ByteArray×Int)):Prop:=d.Pairwise fun p q=>before p.1 q.1=true
def cntN(d:List (ByteArray×Int))(id:Int):Nat:=d.countP fun p=>p.2==id
def cnt(l:List NodeD)(id:Int):Nat:=(l.map fun n=>cntN n.names id).sum
def tot(l:List NodeD):Nat:=(l.map fun n=>n.names.length).sum
def cost(n:NodeD):Nat:=64+n.data.size
def sum(l:List NodeD):Nat:=(l.map cost).sum
def has(d:List (ByteArray×Int))(s:ByteArray):Prop:= ∃ p∈d,same p.1 s=true
def one(b:Bool):Nat:=if b then 1 else 0
theorem same_iff{a b:ByteArray}:same a b=true↔a=b:=by
 unfold same
 rw[beq_iff_eq]
 constructor
 ·intro h;exact ByteArray.ext (by simpa using congrArg List.toArray h)
 ·intro h;rw[h]
theorem before_irrefl(a:ByteArray):before a a=false:=WideAt.bytes_irrefl _
theorem before_trans{a b c:ByteArray}(h1:before a b=true)(h2:before b c=true):before a c=true:=WideShapes.bytes_trans _ _ _ h1 h2
theorem before_total{a b:ByteArray}(h:a≠b):before a b=true∨before b a=true:=
 WideAt.bytes_total _ _ fun e=>h (same_iff.1 (by unfold same;rw[e];simp))
theorem zfX(x:ByteArray×Int)(id:Int): ∀ d,cntN (put x d) id=cntN d id+one (x.2==id)
 |[]=>by simp[put,cntN,one,ldQz]
 |y::r=>by
  have ih:=zfX x id r
  unfold put
  split
  ·simp only[cntN,ldQz,one]
  ·simp only[cntN,ldQz,one] at ih ⊢
   rw[ih];omega
theorem xD(x:ByteArray×Int): ∀ d,(put x d).length=d.length+1
 |[]=>rfl
 |y::r=>by
  unfold put
  split
  ·simp
  ·simp[xD x r]
theorem Xq{x p:ByteArray×Int}: ∀ {d},p∈put x d↔p=x∨p∈d
 |[]=>by simp[put]
 |y::r=>by
  unfold put
  split
  ·simp
  ·simp only[laBz,Xq (d:=r)]
   constructor<;> (intro h;rcases h with h|h|h<;> simp[h])
theorem yS{d:List (ByteArray×Int)}{s:ByteArray}(h:¬has d s):without d s=d:=by
 unfold without
 rw[lcLz]
 intro p hp
 cases hs:same p.1 s
 ·rfl
 ·exact absurd ⟨p,hp,hs⟩ h
theorem Zo{d:List (ByteArray×Int)}{s:ByteArray}{p:ByteArray×Int}:p∈without d s↔p∈d∧p.1≠s:=by
 unfold without
 rw[lbHz]
 refine and_congr_right fun _=> ?_
 cases hs:same p.1 s
 ·simp only[Bool.not_false,true_iff]
  intro e
  rw[same_iff.2 e] at hs
  cases hs
 ·simp only[Bool.not_true,Bool.false_eq_true,false_iff]
  exact fun h=>h (same_iff.1 hs)
theorem YC(d:List (ByteArray×Int))(s:ByteArray):¬has (without d s) s:=fun ⟨p,hp,hs⟩=>(Zo.1 hp).2 (same_iff.1 hs)
theorem xl{d:List (ByteArray×Int)}(h:nameSorted d)(s:ByteArray):nameSorted (without d s):=List.Pairwise.filter _ h
theorem zbH{x:ByteArray×Int}: ∀ {d},nameSorted d→¬has d x.1→nameSorted (put x d)
 |[],_,_=>by simp[put,nameSorted]
 |y::r,h,hn=>by
  obtain⟨h1,h2⟩:=laVz.1 h
  unfold put
  split
  ·rename_i hb
   refine laVz.2 ⟨fun q hq=> ?_,h⟩
   rcases laBz.1 hq with rfl|hq
   ·exact hb
   ·exact before_trans hb (h1 q hq)
  ·rename_i hb
   have hyx:before y.1 x.1=true:=by
    rcases before_total (a:=x.1) (b:=y.1) (fun e=>hn ⟨y,by simp,same_iff.2 e.symm⟩) with h' |h'
    ·exact absurd h' hb
    ·exact h'
   refine laVz.2 ⟨fun q hq=> ?_,zbH h2 fun ⟨p,hp,hs⟩=>hn ⟨p,by simp[hp],hs⟩⟩
   rcases Xq.1 hq with rfl|hq
   ·exact hyx
   ·exact h1 q hq
theorem zeJ{d:List (ByteArray×Int)}(h:nameSorted d)(s:ByteArray)(id:Int):nameSorted (with_ d s id):=zbH (xl h s) (YC d s)
theorem Xu{d:List (ByteArray×Int)}{s:ByteArray}(h:¬has d s):leads d s=0:=by
 unfold leads
 rw[lcNz.2 fun p hp hs=>h ⟨p,hp,by simpa using hs⟩]
theorem leads_at{d:List (ByteArray×Int)}(h:nameSorted d){p:ByteArray×Int}(hp:p∈d):leads d p.1=p.2:=by
 induction d with
 |nil=>cases hp
 |cons y r ih=>
  obtain⟨h1,h2⟩:=laVz.1 h
  unfold leads
  rw[lbGz]
  rcases laBz.1 hp with rfl|hp
  ·rw[same_iff.2 rfl]
  ·have:same y.1 p.1=false:=by
    cases hs:same y.1 p.1
    ·rfl
    ·have:=h1 p hp
     rw[same_iff.1 hs,before_irrefl] at this
     cases this
   rw[this]
   exact ih h2 hp
theorem leads_some{d:List (ByteArray×Int)}{s:ByteArray}(h:leads d s≠0):(s,leads d s)∈d:=by
 unfold leads at h ⊢
 cases hf:d.find? fun p=>same p.1 s with
 |none=>rw[hf] at h;exact absurd rfl h
 |some p=>
  have h1:=laUz hf
  have h2:=lcOz hf
  have:=same_iff.1 (by simpa using h2)
  subst this
  exact h1
theorem YK{d:List (ByteArray×Int)}(h:nameSorted d){s:ByteArray}(hl:leads d s≠0)(id:Int):cntN (without d s) id+one (leads d s==id)=cntN d id∧(without d s).length+1=d.length:=by
 induction d with
 |nil=>exact absurd rfl hl
 |cons y r ih=>
  obtain⟨h1,h2⟩:=laVz.1 h
  cases hs:same y.1 s with
  |true=>
   have e:=same_iff.1 hs
   have hn:¬has r s:=fun ⟨p,hp,hps⟩=>by
    have:=h1 p hp
    rw[e,same_iff.1 hps,before_irrefl] at this
    cases this
   have e1:without (y::r) s=r:=by
    unfold without
    rw[lbNz,hs]
    exact yS hn
   have e2:leads (y::r) s=y.2:=by unfold leads;rw[lbGz,hs]
   rw[e1,e2]
   refine⟨?_,rfl⟩
   simp only[cntN,ldQz,one]
  |false=>
   have e2:leads (y::r) s=leads r s:=by unfold leads;rw[lbGz,hs]
   have e1:without (y::r) s=y::without r s:=by
    unfold without
    rw[lbNz,hs];rfl
   rw[e2] at hl
   obtain⟨i1,i2⟩:=ih h2 hl
   rw[e1,e2]
   simp only[cntN,ldQz,laPz] at i1 ⊢
   omega
theorem yI{d:List (ByteArray×Int)}{s:ByteArray}(hp: ∀ p∈d,p.2≠0)(h:leads d s=0):¬has d s:=fun ⟨p,hm,hs⟩=>by
 unfold leads at h
 cases hf:d.find? fun p=>same p.1 s with
 |none=>exact lcNz.1 hf p hm hs
 |some q=>rw[hf] at h;exact hp q (laUz hf) h
/-! ### lists of inodes -/
def asc(l:List NodeD):Prop:=l.Pairwise fun a b=>a.id<b.id
theorem znG{l:List NodeD}(h:asc l)(n:NodeD):asc (set l n):=by
 unfold asc set
 rw[lcJz]
 refine h.imp fun {a b} hab=> ?_
 by_cases ha:a.id=n.id<;> by_cases hb:b.id=n.id<;> simp[ha,hb]<;> omega
theorem zcR{l:List NodeD}(h:asc l)(id:Int):asc (del l id):=List.Pairwise.filter _ h
theorem find_some{l:List NodeD}{id:Int}{n:NodeD}(h:find l id=some n):n∈l∧n.id=id:=by
 refine⟨laUz h, ?_⟩
 simpa using lcOz h
theorem find_asc{l:List NodeD}(hs:asc l){n:NodeD}(hn:n∈l):find l n.id=some n:=by
 induction l with
 |nil=>cases hn
 |cons y r ih=>
  obtain⟨h1,h2⟩:=laVz.1 hs
  unfold find
  rw[lbGz]
  rcases laBz.1 hn with rfl|hn
  ·simp
  ·have:(y.id==n.id)=false:=by rw[beq_eq_false_iff_ne];have:=h1 n hn;omega
   rw[this]
   exact ih h2 hn
theorem zfB{l:List NodeD}(hs:asc l){n o:NodeD}(ho:find l n.id=some o){m:NodeD}:m∈set l n↔m=n∨(m∈l∧m.id≠n.id):=by
 unfold set
 rw[laKz]
 constructor
 ·rintro⟨x,hx,rfl⟩
  split
  ·exact .inl rfl
  ·rename_i hne
   exact .inr ⟨hx,by simpa using hne⟩
 ·rintro(rfl|⟨hm,hne⟩)
  ·obtain⟨h1,h2⟩:=find_some ho
   exact⟨o,h1,by rw[if_pos (by simpa using h2)]⟩
  ·exact⟨m,hm,by rw[if_neg (by simpa using hne)]⟩
theorem zfI{f:NodeD→Nat}{l:List NodeD}(hs:asc l){n o:NodeD}(ho:find l n.id=some o):((set l n).map f).sum+f o=(l.map f).sum+f n:=by
 induction l with
 |nil=>cases ho
 |cons y r ih=>
  obtain⟨h1,h2⟩:=laVz.1 hs
  unfold find at ho
  rw[lbGz] at ho
  unfold set
  rw[laDz,laDz,lcCz,laDz,lcCz]
  cases hy:y.id==n.id with
  |true=>
   rw[hy] at ho
   have:y=o:=by simpa using ho
   subst this
   have hyn:y.id=n.id:=by simpa using hy
   have e:List.map (fun m=>if m.id==n.id then n else m) r=r:=by
    rw[lbVz (g:=id)]
    ·simp
    ·intro m hm
     have:=h1 m hm
     rw[if_neg]
     ·rfl
     ·simp;omega
   rw[e]
   simp only[if_true]
   omega
  |false=>
   rw[hy] at ho
   have:=ih h2 ho
   unfold set at this
   simp only[Bool.false_eq_true,if_false]
   omega
theorem zeT{f:NodeD→Nat}{l:List NodeD}(hs:asc l){id:Int}{o:NodeD}(ho:find l id=some o):((del l id).map f).sum+f o=(l.map f).sum:=by
 induction l with
 |nil=>cases ho
 |cons y r ih=>
  obtain⟨h1,h2⟩:=laVz.1 hs
  unfold find at ho
  rw[lbGz] at ho
  unfold del
  rw[lbNz]
  cases hy:y.id==id with
  |true=>
   rw[hy] at ho
   have:y=o:=by simpa using ho
   subst this
   have hyn:y.id=id:=by simpa using hy
   have e:List.filter (fun m=> !(m.id==id)) r=r:=by
    rw[lcLz]
    intro m hm
    have:=h1 m hm
    simp;omega
   simp only[Bool.not_true,Bool.false_eq_true,if_false]
   rw[e,laDz,lcCz]
   omega
  |false=>
   rw[hy] at ho
   have:=ih h2 ho
   unfold del at this
   simp only[Bool.not_false,if_true]
   rw[laDz,lcCz,laDz,lcCz]
   omega
theorem le_sum{f:NodeD→Nat}{l:List NodeD}{n:NodeD}(h:n∈l):f n≤(l.map f).sum:=by
 induction l with
 |nil=>cases h
 |cons y r ih=>
  rw[laDz,lcCz]
  rcases laBz.1 h with rfl|h
  ·omega
  ·have:=ih h;omega
theorem znK(d:List (ByteArray×Int))(id:Int):cntN d id≤d.length:=List.countP_le_length
theorem cnt_le(l:List NodeD)(id:Int):cnt l id≤tot l:=by
 unfold cnt tot
 induction l with
 |nil=>simp
 |cons y r ih=>
  rw[laDz,lcCz,laDz,lcCz]
  have:=znK y.names id
  omega
/-! ### the invariant -/
def zne(n:NodeD):Prop:=(0<n.links∨0<n.holds)∧(n.dir=true→n.links=1)
def rootI(id:Int):Int:=if id=1 then 1 else 0
structure InvD (δ:Int→Int) (x:Int) (N:Nat) (t:TabD):Prop where
 q0:64≤t.quota
 q1:t.quota≤1099511627776
 asc:asc t.nodes
 root: ∃ r,find t.nodes 1=some r∧r.dir=true
 pos: ∀ n∈t.nodes,1≤n.id∧n.id≤t.last
 last:1≤t.last∧t.last≤N
 links: ∀ n∈t.nodes,n.links=cnt t.nodes n.id+rootI n.id+δ n.id
 alive: ∀ n∈t.nodes,n.id≠x→zne n
 holds: ∀ n∈t.nodes,0≤n.holds∧n.holds≤1048576
 dirs: ∀ n∈t.nodes,n.dir=true→n.holds=0∧n.data.size=0
 files: ∀ n∈t.nodes,n.dir=false→n.names=[]
 leads: ∀ d∈t.nodes,∀ p∈d.names,∃ n,find t.nodes p.2=some n
 sorted: ∀ d∈t.nodes,nameSorted d.names
 short: ∀ d∈t.nodes,∀ p∈d.names,p.1.size≤32
 used:t.used=sum t.nodes
 cap:t.used≤t.quota
 data: ∀ n∈t.nodes,n.data.size≤1048576
 tot:tot t.nodes≤N
abbrev Inv(N:Nat)(t:TabD):Prop:=InvD (fun _=>0) 0 N t
theorem InvD.more{δ:Int→Int}{x:Int}{N M:Nat}{t:TabD}(h:InvD δ x N t)(hM:N≤M):InvD δ x M t:=
 {h with last:=⟨h.last.1,by have:=h.last.2;omega⟩,tot:=Nat.le_trans h.tot hM}
theorem inv_new{q:Int}(h0:64≤q)(h1:q≤1099511627776):Inv 1 (new q) where
 q0:=h0
 q1:=h1
 asc:=lcYz _ _
 root:=⟨_,rfl,rfl⟩
 pos:=fun n hn=>by have:n=⟨1,true,1,0,ByteArray.empty,[]⟩:=(by simpa[new] using hn);subst this;exact⟨by decide,show(1:Int)≤1 by decide⟩
 last:=⟨show(1:Int)≤1 by decide,show(1:Int)≤((1:Nat):Int) by decide⟩
 links:=fun n hn=>by have:n=⟨1,true,1,0,ByteArray.empty,[]⟩:=(by simpa[new] using hn);subst this;rfl
 alive:=fun n hn _=>by have:n=⟨1,true,1,0,ByteArray.empty,[]⟩:=(by simpa[new] using hn);subst this;exact⟨.inl (by decide),fun _=>rfl⟩
 holds:=fun n hn=>by have:n=⟨1,true,1,0,ByteArray.empty,[]⟩:=(by simpa[new] using hn);subst this;exact⟨by decide,by decide⟩
 dirs:=fun n hn _=>by have:n=⟨1,true,1,0,ByteArray.empty,[]⟩:=(by simpa[new] using hn);subst this;exact⟨rfl,rfl⟩
 files:=fun n hn hd=>by have:n=⟨1,true,1,0,ByteArray.empty,[]⟩:=(by simpa[new] using hn);subst this;rfl
 leads:=fun n hn p hp=>by have:n=⟨1,true,1,0,ByteArray.empty,[]⟩:=(by simpa[new] using hn);subst this;cases hp
 sorted:=fun n hn=>by have:n=⟨1,true,1,0,ByteArray.empty,[]⟩:=(by simpa[new] using hn);subst this;exact List.Pairwise.nil
 short:=fun n hn p hp=>by have:n=⟨1,true,1,0,ByteArray.empty,[]⟩:=(by simpa[new] using hn);subst this;cases hp
 used:=rfl
 cap:=h0
 data:=fun n hn=>by have:n=⟨1,true,1,0,ByteArray.empty,[]⟩:=(by simpa[new] using hn);subst this;exact Nat.zero_le _
 tot:=show 0≤1 by decide
theorem zcC{l:List NodeD}{n o:NodeD}(ho:find l n.id=some o)(id:Int):find (set l n) id=if id=n.id then some n else find l id:=by
 unfold set find at*
 induction l with
 |nil=>cases ho
 |cons y r ih=>
  rw[laDz,lbGz,lbGz]
  rw[lbGz] at ho
  cases hy:y.id==n.id with
  |true=>
   have hyn:y.id=n.id:=by simpa using hy
   simp only[if_true]
   by_cases hi:id=n.id
   ·subst hi;simp
   ·rw[if_neg hi]
    have e2:(n.id==id)=false:=by rw[beq_eq_false_iff_ne];exact fun e=>hi e.symm
    have e3:(y.id==id)=false:=by rw[hyn];exact e2
    rw[e2,e3]
    simp only
    rw[ldFz]
    have:((fun m:NodeD=>m.id==id)∘fun m=>if m.id==n.id then n else m)=fun m=>m.id==id:=by
     funext m
     simp only[Function.comp]
     split
     ·rename_i hm
      rw[show m.id=n.id by simpa using hm]
     ·rfl
    rw[this]
    cases hf:r.find? fun m=>m.id==id with
    |none=>rfl
    |some x=>
     have hx:=lcOz hf
     simp only[Option.map_some]
     rw[if_neg]
     intro hc
     have h1:x.id=id:=by simpa using hx
     have h2:x.id=n.id:=by simpa using hc
     exact hi (h1▸h2)
  |false=>
   rw[hy] at ho
   simp only at ho
   simp only[Bool.false_eq_true,if_false]
   have hne:y.id≠n.id:=by simpa using hy
   by_cases hyi:y.id=id
   ·have e2:(y.id==id)=true:=by simpa using hyi
    rw[e2]
    simp only
    rw[if_neg (fun e=>hne (hyi.trans e))]
   ·have e2:(y.id==id)=false:=by rw[beq_eq_false_iff_ne];exact hyi
    rw[e2]
    exact ih ho
theorem Yr{l:List NodeD}{id x:Int}(hx:x≠id):find (del l id) x=find l x:=by
 unfold find del
 rw[lcZz]
 congr 1
 funext m
 by_cases h:m.id=x
 ·subst h
  simp[hx]
 ·simp[h]
theorem zcP{l:List NodeD}(hs:In.asc l){n o:NodeD}(ho:find l n.id=some o)(id:Int):cnt (set l n) id+cntN o.names id=cnt l id+cntN n.names id:=zfI (f:=fun n=>cntN n.names id) hs ho
theorem InvD.turn{δ δ':Int→Int}{x y:Int}{N M:Nat}{t:TabD}(h:InvD δ x N t){n o:NodeD}(ho:find t.nodes n.id=some o)(hd:n.dir=o.dir)
  (hl: ∀ id,(n.id=id→n.links=cnt (set t.nodes n) id+rootI id+δ' id)∧(n.id≠id→(cnt t.nodes id:Int)+δ id=cnt (set t.nodes n) id+δ' id)) (ha: ∀ m∈t.nodes,m.id≠n.id→m.id≠y→m.id≠x) (hn:n.id≠y→zne n)
  (hh:0≤n.holds∧n.holds≤1048576) (hdir:n.dir=true→n.holds=0∧n.data.size=0) (hfile:n.dir=false→n.names=[]) (hle: ∀ p∈n.names,∃ m,find t.nodes p.2=some m) (hso:nameSorted n.names) (hsh: ∀ p∈n.names,p.1.size≤32)
  {u:Int} (hu:u=t.used - cost o+cost n) (hc:u≤t.quota) (hda:n.data.size≤1048576) (hto:In.tot t.nodes+n.names.length≤M+o.names.length) (hM:N≤M):
  InvD δ' y M ⟨t.quota,u,t.last,set t.nodes n⟩:=by
 obtain⟨om,oi⟩:=find_some ho
 have hm:=fun m=>zfB h.asc ho (m:=m)
 refine {q0:=h.q0,q1:=h.q1,asc:=znG h.asc n,root:= ?_,pos:= ?_,last:=⟨h.last.1,by have:=h.last.2;show t.last≤(M:Int);omega⟩,links:= ?_,alive:= ?_,holds:= ?_,dirs:= ?_,files:= ?_,leads:= ?_,sorted:= ?_,short:= ?_,used:= ?_,cap:=hc,data:= ?_,tot:= ?_}
 ·obtain⟨r,hr,hrd⟩:=h.root
  show ∃ r,find (set t.nodes n) 1=some r∧r.dir=true
  rw[zcC ho]
  split
  ·rename_i e
   rw[e,ho] at hr
   cases hr
   exact⟨n,rfl,hd.trans hrd⟩
  ·exact⟨r,hr,hrd⟩
 ·intro m hm'
  rcases(hm m).1 hm' with rfl|⟨h1,_⟩
  ·have:=h.pos o om;rw[oi] at this;exact this
  ·exact h.pos m h1
 ·intro m hm'
  show m.links=cnt (set t.nodes n) m.id+rootI m.id+δ' m.id
  rcases(hm m).1 hm' with rfl|⟨h1,h2⟩
  ·exact(hl m.id).1 rfl
  ·have:=h.links m h1
   have:=(hl m.id).2 (fun e=>h2 e.symm)
   omega
 ·intro m hm' hy
  rcases(hm m).1 hm' with rfl|⟨h1,h2⟩
  ·exact hn hy
  ·exact h.alive m h1 (ha m h1 h2 hy)
 ·intro m hm'
  rcases(hm m).1 hm' with rfl|⟨h1,_⟩
  ·exact hh
  ·exact h.holds m h1
 ·intro m hm'
  rcases(hm m).1 hm' with rfl|⟨h1,_⟩
  ·exact hdir
  ·exact h.dirs m h1
 ·intro m hm'
  rcases(hm m).1 hm' with rfl|⟨h1,_⟩
  ·exact hfile
  ·exact h.files m h1
 ·intro m hm' p hp
  show ∃ k,find (set t.nodes n) p.2=some k
  have key: ∃ k,find t.nodes p.2=some k:=by
   rcases(hm m).1 hm' with rfl|⟨h1,_⟩
   ·exact hle p hp
   ·exact h.leads m h1 p hp
  obtain⟨k,hk⟩:=key
  rw[zcC ho]
  split
  ·exact⟨n,rfl⟩
  ·exact⟨k,hk⟩
 ·intro m hm'
  rcases(hm m).1 hm' with rfl|⟨h1,_⟩
  ·exact hso
  ·exact h.sorted m h1
 ·intro m hm'
  rcases(hm m).1 hm' with rfl|⟨h1,_⟩
  ·exact hsh
  ·exact h.short m h1
 ·show u=((In.sum (set t.nodes n):Nat):Int)
  have:=zfI (f:=cost) h.asc ho
  have hus:=h.used
  unfold In.sum at hus ⊢
  omega
 ·intro m hm'
  rcases(hm m).1 hm' with rfl|⟨h1,_⟩
  ·exact hda
  ·exact h.data m h1
 ·show In.tot (set t.nodes n)≤M
  have:=zfI (f:=fun n=>n.names.length) h.asc ho
  unfold In.tot at hto ⊢
  omega
end In
end
section
namespace In
theorem InvD.congr{δ δ':Int→Int}{x:Int}{N:Nat}{t:TabD}(h:InvD δ x N t)(e: ∀ id,δ id=δ' id):InvD δ' x N t:=by
 have:δ=δ':=funext e
 subst this
 exact h
theorem InvD.whole{δ:Int→Int}{x:Int}{N:Nat}{t:TabD}(h:InvD δ x N t)(ha: ∀ n,find t.nodes x=some n→zne n):InvD δ 0 N t:=by
 have key: ∀ n∈t.nodes,n.id≠0→zne n:=fun n hn _=>by
  by_cases e:n.id=x
  ·exact ha n (by rw[←e];exact find_asc h.asc hn)
  ·exact h.alive n hn e
 exact {h with alive:=key}
theorem InvD.none{δ:Int→Int}{x:Int}{N:Nat}{t:TabD}(h:InvD δ 0 N t):InvD δ x N t:=
 {h with alive:=fun n hn _=>h.alive n hn (by have:=(h.pos n hn).1;omega)}
theorem at_some{t:TabD}{id:Int}{n:NodeD}(h:find t.nodes id=some n):at_ t id=n:=by unfold at_;rw[h]
theorem zoi(t:TabD)(n:NodeD):setN t n=⟨t.quota,t.used,t.last,set t.nodes n⟩:=rfl
theorem zeE(b:Bool):(b=true∧one b=1)∨(b=false∧one b=0):=by cases b<;> simp[one]
section
variable {δ:Int→Int}{N:Nat}{t:TabD}
theorem YH{x:Int}(h:InvD δ x N t){d:NodeD}(hd:d∈t.nodes): ∀ p∈d.names,p.2≠0:=fun p hp=>by
 obtain⟨n,hn⟩:=h.leads d hd p hp
 obtain⟨h1,h2⟩:=find_some hn
 have:=(h.pos n h1).1
 omega
theorem Xm{x:Int}(h:InvD δ x N t){dir:Int}{d:NodeD}(hd:find t.nodes dir=some d)(hdd:d.dir=true){s:ByteArray}(hn:¬has d.names s){k:Int}{m:NodeD}(hk:find t.nodes k=some m)(hsz:s.size≤32)(hx:d.id≠x):
  InvD (fun id=>δ id - one (k==id)) x (N+1) (nameIn t dir s k):=by
 obtain⟨dm,di⟩:=find_some hd
 have e:nameIn t dir s k=⟨t.quota,t.used,t.last,set t.nodes {d with names:=with_ d.names s k}⟩:=by unfold nameIn;rw[at_some hd];rfl
 rw[e]
 have ho:find t.nodes ({d with names:=with_ d.names s k}:NodeD).id=some d:=by show find t.nodes d.id=_;rw[di];exact hd
 have hc:=zcP h.asc ho
 have hw: ∀ id,cntN (with_ d.names s k) id=cntN d.names id+one (k==id):=fun id=>by
  unfold with_;rw[zfX,yS hn]
 have hal:=h.alive d dm hx
 refine h.turn ho rfl (fun id=>⟨fun hi=> ?_,fun hi=> ?_⟩) (fun _ _ _ h=>h) (fun _=>hal) (h.holds d dm) (h.dirs d dm) (fun hf=>by rw[show d.dir=false from hf] at hdd;cases hdd) (fun p hp=> ?_) (zeJ (h.sorted d dm) s k) (fun p hp=>by
   rcases Xq.1 hp with rfl|hp
   ·exact hsz
   ·exact h.short d dm p (Zo.1 hp).1) (u:=t.used) (by show t.used=t.used - cost d+cost d;omega) h.cap (h.data d dm) ?_ (Nat.le_succ N)
 ·have h1:=h.links d dm
  have h2:=hc id
  have h3:=hw id
  have hi':d.id=id:=hi
  subst hi'
  show d.links=_
  have e2:cntN ({d with names:=with_ d.names s k}:NodeD).names d.id=cntN (with_ d.names s k) d.id:=rfl
  omega
 ·have h2:=hc id
  have h3:=hw id
  have e2:cntN ({d with names:=with_ d.names s k}:NodeD).names id=cntN (with_ d.names s k) id:=rfl
  omega
 ·rcases Xq.1 hp with rfl|hp
  ·exact⟨m,hk⟩
  ·exact h.leads d dm p (Zo.1 hp).1
 ·have:(with_ d.names s k).length=d.names.length+1:=by unfold with_;rw[xD,yS hn]
  have e2:({d with names:=with_ d.names s k}:NodeD).names.length=(with_ d.names s k).length:=rfl
  have:=h.tot
  omega
theorem xz{x:Int}(h:InvD δ x N t){dir:Int}{d:NodeD}(hd:find t.nodes dir=some d)(hdd:d.dir=true){s:ByteArray}(hn:leads d.names s≠0)(hx:d.id≠x):
  InvD (fun id=>δ id+one (leads d.names s==id)) x N (nameOut t dir s):=by
 obtain⟨dm,di⟩:=find_some hd
 have e:nameOut t dir s=⟨t.quota,t.used,t.last,set t.nodes {d with names:=without d.names s}⟩:=by unfold nameOut;rw[at_some hd];rfl
 rw[e]
 have ho:find t.nodes ({d with names:=without d.names s}:NodeD).id=some d:=by show find t.nodes d.id=_;rw[di];exact hd
 have hc:=zcP h.asc ho
 have hw:=fun id=>(YK (h.sorted d dm) hn id).1
 have hal:=h.alive d dm hx
 refine h.turn ho rfl (fun id=>⟨fun hi=> ?_,fun hi=> ?_⟩) (fun _ _ _ h=>h) (fun _=>hal) (h.holds d dm) (h.dirs d dm) (fun hf=>by rw[show d.dir=false from hf] at hdd;cases hdd) (fun p hp=>h.leads d dm p (Zo.1 hp).1) (xl (h.sorted d dm) s) (fun p hp=>h.short d dm p (Zo.1 hp).1) (u:=t.used) (by show t.used=t.used - cost d+cost d;omega) h.cap (h.data d dm) ?_ (Nat.le_refl N)
 ·have h1:=h.links d dm
  have h2:=hc id
  have h3:=hw id
  have hi':d.id=id:=hi
  subst hi'
  show d.links=_
  have e2:cntN ({d with names:=without d.names s}:NodeD).names d.id=cntN (without d.names s) d.id:=rfl
  omega
 ·have h2:=hc id
  have h3:=hw id
  have e2:cntN ({d with names:=without d.names s}:NodeD).names id=cntN (without d.names s) id:=rfl
  omega
 ·have:=(YK (h.sorted d dm) hn 0).2
  have e2:({d with names:=without d.names s}:NodeD).names.length=(without d.names s).length:=rfl
  have:=h.tot
  omega
theorem Yw{x:Int}(h:InvD δ x N t){k:Int}{o:NodeD}(ho:find t.nodes k=some o)(hx:x=0∨x=k)(l v:Int)(hv:0≤v∧v≤1048576)(hdir:o.dir=true→v=0):
  InvD (fun id=>δ id+(if k=id then l - o.links else 0)) k N (setN t {o with links:=l,holds:=v}):=by
 obtain⟨om,oi⟩:=find_some ho
 rw[zoi]
 have ho':find t.nodes ({o with links:=l,holds:=v}:NodeD).id=some o:=by show find t.nodes o.id=_;rw[oi];exact ho
 have hc:=zcP h.asc ho'
 refine h.turn ho' rfl (fun id=>⟨fun hi=> ?_,fun hi=> ?_⟩) (fun m hm h1 h2=> ?_) (fun hne=>absurd oi hne) hv (fun hd=>⟨hdir hd,(h.dirs o om hd).2⟩) (h.files o om) (h.leads o om) (h.sorted o om) (h.short o om) (u:=t.used) (by show t.used=t.used - cost o+cost o;omega) h.cap (h.data o om) ?_ (Nat.le_refl N)
 ·have h1:=h.links o om
  have h2:=hc id
  have hi':o.id=id:=hi
  have e2:cntN ({o with links:=l,holds:=v}:NodeD).names id=cntN o.names id:=rfl
  show l=_+_+(δ id+if k=id then l - o.links else 0)
  rw[if_pos (oi.symm.trans hi')]
  rw[hi'] at h1
  omega
 ·have h2:=hc id
  have hi':o.id≠id:=hi
  have e2:cntN ({o with links:=l,holds:=v}:NodeD).names id=cntN o.names id:=rfl
  show _=_+(δ id+if k=id then l - o.links else 0)
  rw[if_neg (fun e=>hi' (oi.trans e))]
  omega
 ·rcases hx with rfl|rfl
  ·have:=(h.pos m hm).1;omega
  ·exact h2
 ·have e2:({o with links:=l,holds:=v}:NodeD).names.length=o.names.length:=rfl
  have:=h.tot
  omega
theorem zfy{x:Int}(h:InvD δ x N t){k:Int}{o:NodeD}(ho:find t.nodes k=some o)(hx:x=0∨x=k):InvD (fun id=>δ id+one (k==id)) k N (linksUp t k):=by
 obtain⟨om,oi⟩:=find_some ho
 have e:linksUp t k=setN t {o with links:=o.links+1,holds:=o.holds}:=by unfold linksUp;rw[at_some ho];rfl
 rw[e]
 refine(Yw h ho hx (o.links+1) o.holds (h.holds o om) (fun hd=>(h.dirs o om hd).1)).congr fun id=> ?_
 rcases zeE (k==id) with ⟨h1,h2⟩|⟨h1,h2⟩
 ·rw[h2,if_pos (by simpa using h1)];omega
 ·rw[h2,if_neg (by simpa using h1)];omega
theorem zcF{x:Int}(h:InvD δ x N t){k:Int}{o:NodeD}(ho:find t.nodes k=some o)(hx:x=0∨x=k):InvD (fun id=>δ id - one (k==id)) k N (linksDown t k):=by
 obtain⟨om,oi⟩:=find_some ho
 have e:linksDown t k=setN t {o with links:=o.links - 1,holds:=o.holds}:=by unfold linksDown;rw[at_some ho];rfl
 rw[e]
 refine(Yw h ho hx (o.links - 1) o.holds (h.holds o om) (fun hd=>(h.dirs o om hd).1)).congr fun id=> ?_
 rcases zeE (k==id) with ⟨h1,h2⟩|⟨h1,h2⟩
 ·rw[h2,if_pos (by simpa using h1)];omega
 ·rw[h2,if_neg (by simpa using h1)];omega
theorem zgz{k:Int}(h:InvD (fun _=>0) k N t){o:NodeD}(ho:find t.nodes k=some o)(hl:0≤o.links)(hd:o.dir=true→o.links=0∧o.names=[]):Inv N (gone t k):=by
 obtain⟨om,oi⟩:=find_some ho
 unfold gone
 rw[at_some ho]
 by_cases hg:(o.links==0&&o.holds==0)=true
 ·rw[if_pos hg]
  rw[Bool.and_eq_true,beq_iff_eq,beq_iff_eq] at hg
  have hlk:=h.links o om
  rw[hg.1,oi] at hlk
  have hk1:k≠1:=fun e=>by rw[e] at hlk;simp[rootI] at hlk;omega
  have hz:cnt t.nodes k=0:=by simp[rootI,hk1] at hlk;omega
  have hnm:o.names=[]:=by
   cases hod:o.dir with
   |true=>exact(hd hod).2
   |false=>exact h.files o om hod
  have hcd: ∀ id,cnt (del t.nodes k) id=cnt t.nodes id:=fun id=>by
   have:=zeT (f:=fun n=>cntN n.names id) h.asc ho
   unfold cnt
   have e:cntN o.names id=0:=by rw[hnm];rfl
   omega
  have hmem: ∀ m,m∈del t.nodes k→m∈t.nodes∧m.id≠k:=fun m hm=>by
   obtain⟨h1,h2⟩:=lbHz.1 hm
   exact⟨h1,by simpa using h2⟩
  have hnl: ∀ d∈t.nodes,∀ p∈d.names,p.2≠k:=fun d hdm p hp e=>by
   have h1:cntN d.names k≤cnt t.nodes k:=le_sum (f:=fun n=>cntN n.names k) hdm
   have h2:0<cntN d.names k:=ldAz.2 ⟨p,hp,by simpa using e⟩
   omega
  refine {q0:=h.q0,q1:=h.q1,asc:=zcR h.asc k,root:= ?_,pos:=fun m hm=>h.pos m (hmem m hm).1,last:=h.last,links:=fun m hm=> ?_,alive:=fun m hm _=>h.alive m (hmem m hm).1 (hmem m hm).2,holds:=fun m hm=>h.holds m (hmem m hm).1,dirs:=fun m hm=>h.dirs m (hmem m hm).1,files:=fun m hm=>h.files m (hmem m hm).1,leads:=fun d hdm p hp=> ?_,sorted:=fun m hm=>h.sorted m (hmem m hm).1,short:=fun m hm=>h.short m (hmem m hm).1,used:= ?_,cap:= ?_,data:=fun m hm=>h.data m (hmem m hm).1,tot:= ?_}
  ·obtain⟨r,hr,hrd⟩:=h.root
   exact⟨r,by show find (del t.nodes k) 1=_;rw[Yr (fun e=>hk1 e.symm)];exact hr,hrd⟩
  ·have:=h.links m (hmem m hm).1
   show m.links=(cnt (del t.nodes k) m.id:Int)+rootI m.id+0
   rw[hcd];exact this
  ·obtain⟨n,hn⟩:=h.leads d (hmem d hdm).1 p hp
   exact⟨n,by show find (del t.nodes k) p.2=_;rw[Yr (hnl d (hmem d hdm).1 p hp)];exact hn⟩
  ·have:=zeT (f:=cost) h.asc ho
   have hu:=h.used
   unfold In.sum at hu ⊢
   have e:cost o=64+o.data.size:=rfl
   show t.used - (64+(o.data.size:Int))=_
   show _=(((del t.nodes k).map cost).sum:Int)
   omega
  ·have:=h.cap
   show t.used - (64+(o.data.size:Int))≤t.quota
   omega
  ·have:=zeT (f:=fun n=>n.names.length) h.asc ho
   have ht:=h.tot
   unfold In.tot at ht ⊢
   show((del t.nodes k).map fun n=>n.names.length).sum≤N
   omega
 ·rw[if_neg hg]
  refine h.whole fun n hn=> ?_
  rw[ho] at hn
  cases hn
  have hh:=(h.holds o om).1
  rw[Bool.and_eq_true,beq_iff_eq,beq_iff_eq] at hg
  refine⟨by omega,fun hod=> ?_⟩
  exfalso
  exact hg ⟨(hd hod).1,(h.dirs o om hod).1⟩
end
end In
end
section
namespace In
section
variable {N:Nat}{t:TabD}
theorem getE_ok{id:Int}{dir:Bool}(h:getE t id dir=0): ∃ n,find t.nodes id=some n∧n.dir=dir:=by
 unfold getE at h
 cases hn:find t.nodes id with
 |none=>rw[hn] at h;cases h
 |some n=>
  rw[hn] at h
  cases hd:n.dir==dir with
  |true=>exact⟨n,rfl,by simpa using hd⟩
  |false=>simp[hd] at h
theorem placeE_ok{dir:Int}{s:ByteArray}(h:placeE t dir s=0): ∃ d,find t.nodes dir=some d∧d.dir=true∧isName s=true:=by
 unfold placeE at h
 cases h1:getE t dir true==0 with
 |true=>
  obtain⟨d,hd,hdd⟩:=getE_ok (by simpa using h1)
  rw[h1] at h
  cases hn:isName s with
  |true=>exact⟨d,hd,hdd,rfl⟩
  |false=>rw[hn] at h;simp at h
 |false=>rw[h1] at h;simp at h h1;exact absurd h h1
theorem emptyE_ok{dir:Int}{s:ByteArray}(h:emptyE t dir s=0): ∃ d,find t.nodes dir=some d∧d.dir=true∧isName s=true∧leads d.names s=0:=by
 unfold emptyE at h
 cases h1:placeE t dir s==0 with
 |true=>
  obtain⟨d,hd,hdd,hn⟩:=placeE_ok (by simpa using h1)
  rw[h1,at_some hd] at h
  cases hl:leads d.names s==0 with
  |true=>exact⟨d,hd,hdd,hn,by simpa using hl⟩
  |false=>rw[hl] at h;simp at h
 |false=>rw[h1] at h;simp at h h1;exact absurd h h1
theorem findE_ok{dir:Int}{s:ByteArray}(h:findE t dir s=0): ∃ d,find t.nodes dir=some d∧d.dir=true∧leads d.names s≠0∧findN t dir s=leads d.names s:=by
 have hN:findN t dir s=leads (at_ t dir).names s:=by unfold findN;rw[h];rfl
 unfold findE at h
 cases h1:placeE t dir s==0 with
 |true=>
  obtain⟨d,hd,hdd,hn⟩:=placeE_ok (by simpa using h1)
  rw[h1,at_some hd] at h
  rw[at_some hd] at hN
  cases hl:leads d.names s==0 with
  |true=>rw[hl] at h;simp at h
  |false=>exact⟨d,hd,hdd,by simpa using hl,hN⟩
 |false=>rw[h1] at h;simp at h h1;exact absurd h h1
theorem unlinkE_ok{dir:Int}{s:ByteArray}(h:unlinkE t dir s=0):findE t dir s=0∧ ∃ d n,find t.nodes dir=some d∧d.dir=true∧leads d.names s≠0∧findN t dir s=leads d.names s∧find t.nodes (leads d.names s)=some n∧n.dir=false:=by
 unfold unlinkE at h
 cases h1:findE t dir s==0 with
 |true=>
  have h1':findE t dir s=0:=by simpa using h1
  obtain⟨d,hd,hdd,hl,hN⟩:=findE_ok h1'
  rw[h1] at h
  have h:getE t (findN t dir s) false=0:=h
  obtain⟨n,hn,hnd⟩:=getE_ok h
  rw[hN] at hn
  exact⟨h1',d,n,hd,hdd,hl,hN,hn,hnd⟩
 |false=>rw[h1] at h;simp at h h1;exact absurd h h1
theorem ym{k:Int}{n o:NodeD}(ho:find t.nodes k=some o)(hi:n.id=k)(x:Int):find (setN t n).nodes x=if x=k then some n else find t.nodes x:=by
 subst hi;exact zcC ho x
theorem find_nameIn{k:Int}{o:NodeD}(ho:find t.nodes k=some o)(s:ByteArray)(i x:Int):find (nameIn t k s i).nodes x=if x=k then some (o.setNames (with_ o.names s i)) else find t.nodes x:=by
 unfold nameIn;rw[at_some ho];exact ym (n:=o.setNames (with_ o.names s i)) ho (find_some ho).2 x
theorem ZC{k:Int}{o:NodeD}(ho:find t.nodes k=some o)(s:ByteArray)(x:Int):find (nameOut t k s).nodes x=if x=k then some (o.setNames (without o.names s)) else find t.nodes x:=by
 unfold nameOut;rw[at_some ho];exact ym (n:=o.setNames (without o.names s)) ho (find_some ho).2 x
theorem zdA{k:Int}{o:NodeD}(ho:find t.nodes k=some o)(x:Int):find (linksUp t k).nodes x=if x=k then some (o.setLinks (o.links+1)) else find t.nodes x:=by
 unfold linksUp;rw[at_some ho];exact ym (n:=o.setLinks (o.links+1)) ho (find_some ho).2 x
theorem xm{k:Int}{o:NodeD}(ho:find t.nodes k=some o)(x:Int):find (linksDown t k).nodes x=if x=k then some (o.setLinks (o.links - 1)) else find t.nodes x:=by
 unfold linksDown;rw[at_some ho];exact ym (n:=o.setLinks (o.links - 1)) ho (find_some ho).2 x
theorem zdY{k:Int}{o:NodeD}(ho:find t.nodes k=some o)(x:Int):find (holdsUp t k).nodes x=if x=k then some (o.setHolds (o.holds+1)) else find t.nodes x:=by
 unfold holdsUp;rw[at_some ho];exact ym (n:=o.setHolds (o.holds+1)) ho (find_some ho).2 x
theorem yX{k:Int}{o:NodeD}(ho:find t.nodes k=some o)(x:Int):find (holdsDown t k).nodes x=if x=k then some (o.setHolds (o.holds - 1)) else find t.nodes x:=by
 unfold holdsDown;rw[at_some ho];exact ym (n:=o.setHolds (o.holds - 1)) ho (find_some ho).2 x
theorem zbc{k:Int}{o:NodeD}(ho:find t.nodes k=some o)(v:ByteArray)(x:Int):find (dataOf t k v).nodes x=if x=k then some (o.setData v) else find t.nodes x:=by
 unfold dataOf;rw[at_some ho];exact ym (n:=o.setData v) ho (find_some ho).2 x
theorem YQ{k x:Int}(hx:x≠k):find (gone t k).nodes x=find t.nodes x:=by
 unfold gone
 split
 ·exact Yr hx
 ·rfl
theorem Ya{s:ByteArray}(h:isName s=true):s.size≤32:=by
 unfold isName at h
 simp only[Bool.and_eq_true,decide_eq_true_eq] at h
 exact h.1.1.1.2
theorem inv_loses(h:Inv N t){dir:Int}{d:NodeD}(hd:find t.nodes dir=some d)(hdd:d.dir=true){s:ByteArray}(hl:leads d.names s≠0){o:NodeD}(ho:find t.nodes (leads d.names s)=some o)(hod:o.dir=true→o.names=[]):Inv N (loses t dir s):=by
 obtain⟨dm,di⟩:=find_some hd
 obtain⟨om,oi⟩:=find_some ho
 have hne:leads d.names s≠dir:=fun e=>by
  rw[e,hd] at ho
  cases ho
  have:=leads_some hl
  rw[hod hdd] at this
  cases this
 have h1:=xz h hd hdd hl (by have:=(h.pos d dm).1;omega)
 have hf1:find (nameOut t dir s).nodes (leads d.names s)=some o:=by rw[ZC hd,if_neg hne];exact ho
 have h2:=(zcF h1 hf1 (.inl rfl)).congr (δ':=fun _=>0) fun id=>by omega
 have hf2:find (linksDown (nameOut t dir s) (leads d.names s)).nodes (leads d.names s)=some (o.setLinks (o.links - 1)):=by rw[xm hf1,if_pos rfl]
 have hlk:=h2.links _ (find_some hf2).1
 unfold loses
 rw[at_some hd]
 refine zgz h2 hf2 ?_ fun hod'=>⟨?_,hod hod'⟩
 ·rw[hlk]
  unfold rootI
  split<;> omega
 ·have:=(h.alive o om (by have:=(h.pos o om).1;omega)).2 hod'
  show o.links - 1=0
  omega
theorem inv_unlink(h:Inv N t)(dir:Int)(s:ByteArray):Inv N (unlink t dir s).2:=by
 unfold unlink
 cases he:unlinkE t dir s==0 with
 |true=>
  obtain⟨_,d,n,hd,hdd,hl,hN,hn,hnd⟩:=unlinkE_ok (t:=t) (dir:=dir) (s:=s) (by simpa using he)
  exact inv_loses h hd hdd hl hn fun e=>by rw[hnd] at e;cases e
 |false=>exact h
theorem inv_remove(h:Inv N t)(dir:Int)(s:ByteArray):Inv N (remove t dir s).2:=by
 unfold remove
 cases he:removeE t dir s==0 with
 |true=>
  have he':removeE t dir s=0:=by simpa using he
  unfold removeE at he'
  cases h1:findE t dir s==0 with
  |true=>
   obtain⟨d,hd,hdd,hl,hN⟩:=findE_ok (t:=t) (dir:=dir) (s:=s) (by simpa using h1)
   rw[h1] at he'
   cases h2:getE t (findN t dir s) true==0 with
   |true=>
    obtain⟨n,hn,hnd⟩:=getE_ok (t:=t) (id:=findN t dir s) (dir:=true) (by simpa using h2)
    rw[h2,at_some hn] at he'
    cases h3:decide (0<n.names.length) with
    |true=>rw[h3] at he';simp at he'
    |false=>
     rw[hN] at hn
     exact inv_loses h hd hdd hl hn fun _=>lcBz (by have:=of_decide_eq_false h3;omega)
   |false=>rw[h2] at he';simp at he' h2;exact absurd he' h2
  |false=>rw[h1] at he';simp at he' h1;exact absurd he' h1
 |false=>exact h
theorem inv_link(h:Inv N t)(id dir:Int)(s:ByteArray):Inv (N+1) (link t id dir s).2:=by
 unfold link
 cases he:linkE t id dir s==0 with
 |true=>
  have he':linkE t id dir s=0:=by simpa using he
  unfold linkE at he'
  cases h1:getE t id false==0 with
  |true=>
   obtain⟨n,hn,hnd⟩:=getE_ok (t:=t) (id:=id) (dir:=false) (by simpa using h1)
   rw[h1] at he'
   obtain⟨d,hd,hdd,hN,hl⟩:=emptyE_ok (t:=t) (dir:=dir) (s:=s) he'
   obtain⟨dm,di⟩:=find_some hd
   obtain⟨nm,ni⟩:=find_some hn
   have hne:id≠dir:=fun e=>by rw[e,hd] at hn;cases hn;rw[hdd] at hnd;cases hnd
   have k1:=Xm h hd hdd (yI (YH h dm) hl) hn (Ya hN) (by have:=(h.pos d dm).1;omega)
   have hf1:find (nameIn t dir s id).nodes id=some n:=by rw[find_nameIn hd,if_neg hne];exact hn
   have k2:=(zfy k1 hf1 (.inl rfl)).congr (δ':=fun _=>0) fun i=>by omega
   refine k2.whole fun m hm=> ?_
   have hf2:find (linksUp (nameIn t dir s id) id).nodes id=some (n.setLinks (n.links+1)):=by rw[zdA hf1,if_pos rfl]
   rw[hf2] at hm
   cases hm
   have hlk:=h.links n nm
   refine⟨.inl ?_,fun e=>by rw[show n.dir=true from e] at hnd;cases hnd⟩
   show 0<n.links+1
   rw[hlk]
   unfold rootI
   split<;> omega
  |false=>rw[h1] at he';simp at he' h1;exact absurd he' h1
 |false=>exact h.more (Nat.le_succ N)
theorem YI(h:Inv N t){dir tod:Int}{s as_:ByteArray}{d e n:NodeD}(hd:find t.nodes dir=some d)(hdd:d.dir=true)(he:find t.nodes tod=some e)(hed:e.dir=true)(hl:leads d.names s≠0)(hn:find t.nodes (leads d.names s)=some n)(hw:leads e.names as_=0)(hsz:as_.size≤32):
  Inv (N+1) (renameIn t dir s tod as_ (leads d.names s)):=by
 obtain⟨dm,di⟩:=find_some hd
 obtain⟨em,ei⟩:=find_some he
 have h1:=xz h hd hdd hl (by have:=(h.pos d dm).1;omega)
 have hno:¬has e.names as_:=yI (YH h em) hw
 have hf: ∃ e',find (nameOut t dir s).nodes tod=some e'∧e'.dir=true∧¬has e'.names as_:=by
  rw[ZC hd]
  split
  ·rename_i hh
   rw[hh,hd] at he
   cases he
   exact⟨_,rfl,hdd,fun ⟨p,hp,hs⟩=>hno ⟨p,(Zo.1 hp).1,hs⟩⟩
  ·exact⟨e,he,hed,hno⟩
 obtain⟨e',he',hed',hno'⟩:=hf
 have hk: ∃ m,find (nameOut t dir s).nodes (leads d.names s)=some m:=by
  rw[ZC hd]
  split
  ·exact⟨_,rfl⟩
  ·exact⟨n,hn⟩
 obtain⟨m,hm⟩:=hk
 exact(Xm h1 he' hed' hno' hm hsz (by have:=(h1.pos e' (find_some he').1).1;omega)).congr fun id=>by omega
theorem renameE_ok{dir tod:Int}{s as_:ByteArray}(h:renameE t dir s tod as_=0):unlinkE t dir s=0∧placeE t tod as_=0∧(leads (at_ t tod).names as_=findN t dir s∨leads (at_ t tod).names as_=0∨(at_ t (leads (at_ t tod).names as_)).dir=false):=by
 unfold renameE at h
 cases h1:unlinkE t dir s==0 with
 |true=>
  rw[h1] at h
  cases h2:placeE t tod as_==0 with
  |true=>
   rw[h2] at h
   refine⟨by simpa using h1,by simpa using h2, ?_⟩
   cases h3:leads (at_ t tod).names as_==findN t dir s with
   |true=>exact .inl (by simpa using h3)
   |false=>
    rw[h3] at h
    cases h4:leads (at_ t tod).names as_==0 with
    |true=>exact .inr (.inl (by simpa using h4))
    |false=>
     rw[h4] at h
     cases h5:(at_ t (leads (at_ t tod).names as_)).dir with
     |true=>rw[h5] at h;simp at h
     |false=>exact .inr (.inr rfl)
  |false=>rw[h2] at h;simp at h h2;exact absurd h h2
 |false=>rw[h1] at h;simp at h h1;exact absurd h h1
theorem yu{d:List (ByteArray×Int)}{s r:ByteArray}(h:s≠r):leads (without d r) s=leads d s:=by
 unfold leads without
 rw[lcZz]
 have e:(fun p:ByteArray×Int=>decide ((!same p.1 r)=true∧same p.1 s=true))=fun p=>same p.1 s:=by
  funext p
  cases hs:same p.1 s with
  |false=>simp
  |true=>
   have:same p.1 r=false:=by
    cases hr:same p.1 r
    ·rfl
    ·exact absurd ((same_iff.1 hs).symm.trans (same_iff.1 hr)) h
   simp[this]
 rw[e]
theorem find_loses{dir x:Int}{s:ByteArray}{d n:NodeD}(hd:find t.nodes dir=some d)(hn:find t.nodes (leads d.names s)=some n)(hx:x≠leads d.names s):find (loses t dir s).nodes x=if x=dir then some (d.setNames (without d.names s)) else find t.nodes x:=by
 unfold loses
 rw[at_some hd,YQ hx]
 have hk: ∃ m,find (nameOut t dir s).nodes (leads d.names s)=some m:=by
  rw[ZC hd]
  split
  ·exact⟨_,rfl⟩
  ·exact⟨n,hn⟩
 obtain⟨m,hm⟩:=hk
 rw[xm hm,if_neg hx,ZC hd]
theorem inv_rename(h:Inv N t)(dir:Int)(s:ByteArray)(tod:Int)(as_:ByteArray):Inv (N+1) (rename t dir s tod as_).2:=by
 unfold rename
 cases he:renameE t dir s tod as_==0 with
 |false=>exact h.more (Nat.le_succ N)
 |true=>
  obtain⟨h1,h2,h3⟩:=renameE_ok (t:=t) (dir:=dir) (s:=s) (tod:=tod) (as_:=as_) (by simpa using he)
  obtain⟨_,d,n,hd,hdd,hl,hN,hn,hnd⟩:=unlinkE_ok h1
  obtain⟨e,hee,hed,hasN⟩:=placeE_ok h2
  rw[at_some hee,hN] at h3
  show Inv (N+1) (renameT t dir s tod as_)
  unfold renameT
  rw[at_some hee,hN]
  cases c1:leads e.names as_==leads d.names s with
  |true=>exact h.more (Nat.le_succ N)
  |false=>
   cases c2:leads e.names as_==0 with
   |true=>exact YI h hd hdd hee hed hl hn (by simpa using c2) (Ya hasN)
   |false=>
    have c1':leads e.names as_≠leads d.names s:=by simpa using c1
    have c2':leads e.names as_≠0:=by simpa using c2
    obtain⟨w,hw⟩:=h.leads e (find_some hee).1 _ (leads_some c2')
    simp only at hw
    have hwd:w.dir=false:=by
     rcases h3 with h3|h3|h3
     ·exact absurd h3 c1'
     ·exact absurd h3 c2'
     ·rw[at_some hw] at h3;exact h3
    have hi:=inv_loses h hee hed c2' hw fun e=>by rw[hwd] at e;cases e
    have ndw: ∀ {x:Int} {m:NodeD},find t.nodes x=some m→m.dir=true→x≠leads e.names as_:=fun {x m} hm hmd hx=>by
     rw[hx,hw] at hm;cases hm;rw[hwd] at hmd;cases hmd
    have fd:=find_loses hee hw (ndw hd hdd)
    have fe:=find_loses hee hw (ndw hee hed)
    have fn:=find_loses hee hw (x:=leads d.names s) (fun hx=>c1' hx.symm)
    rw[if_pos rfl] at fe
    have hne:leads d.names s≠tod:=fun hx=>by rw[hx,hee] at hn;cases hn;rw[hnd] at hed;cases hed
    rw[if_neg hne] at fn
    have hwz:leads (e.setNames (without e.names as_)).names as_=0:=Xu (YC _ _)
    by_cases hdt:dir=tod
    ·subst hdt
     rw[hd] at hee
     cases hee
     have hsr:s≠as_:=fun e=>c1' (by rw[e])
     have el:leads (d.setNames (without d.names as_)).names s=leads d.names s:=yu hsr
     have:=YI hi fe hdd fe hdd (s:=s) (as_:=as_) (by rw[el];exact hl) (by rw[el,fn];exact hn) hwz (Ya hasN)
     rw[el] at this
     exact this
    ·rw[if_neg hdt] at fd
     exact YI hi (fd.trans hd) hdd fe hed hl (fn.trans hn) hwz (Ya hasN)
theorem inv_hold(h:Inv N t)(id:Int):Inv N (hold t id).2:=by
 unfold hold
 cases he:holdE t id==0 with
 |false=>exact h
 |true=>
  have he':holdE t id=0:=by simpa using he
  unfold holdE at he'
  cases h1:getE t id false==0 with
  |false=>rw[h1] at he';simp at he' h1;exact absurd he' h1
  |true=>
   obtain⟨n,hn,hnd⟩:=getE_ok (t:=t) (id:=id) (dir:=false) (by simpa using h1)
   rw[h1,at_some hn] at he'
   obtain⟨nm,ni⟩:=find_some hn
   have hh:=h.holds n nm
   have hlt:n.holds<1048576:=by
    by_cases c:1048576≤n.holds
    ·rw[decide_eq_true c] at he';simp at he'
    ·omega
   have e:holdsUp t id=setN t {n with links:=n.links,holds:=n.holds+1}:=by unfold holdsUp;rw[at_some hn];rfl
   show Inv N (holdsUp t id)
   have k:=(Yw h hn (.inl rfl) n.links (n.holds+1) ⟨by omega,by omega⟩ (fun e=>by rw[hnd] at e;cases e)).congr (δ':=fun _=>0) fun i=>by split<;> omega
   rw[←e] at k
   refine k.whole fun m hm=> ?_
   rw[zdY hn,if_pos rfl] at hm
   cases hm
   exact⟨.inr (by show 0<n.holds+1;omega),fun e=>by rw[show n.dir=true from e] at hnd;cases hnd⟩
theorem inv_drop(h:Inv N t)(id:Int):Inv N (drop t id).2:=by
 unfold drop
 cases he:dropE t id==0 with
 |false=>exact h
 |true=>
  have he':dropE t id=0:=by simpa using he
  unfold dropE at he'
  cases hn:find t.nodes id with
  |none=>rw[hn] at he';cases he'
  |some n=>
   rw[hn] at he'
   obtain⟨nm,ni⟩:=find_some hn
   have hh:=h.holds n nm
   have he':(if n.holds==0 then 1 else 0)=(0:Int):=he'
   have hnz:n.holds≠0:=fun e=>by rw[e] at he';simp at he'
   have hnd:n.dir=false:=by
    cases hd:n.dir with
    |false=>rfl
    |true=>exact absurd (h.dirs n nm hd).1 hnz
   have e:holdsDown t id=setN t {n with links:=n.links,holds:=n.holds - 1}:=by unfold holdsDown;rw[at_some hn];rfl
   have k:=(Yw h hn (.inl rfl) n.links (n.holds - 1) ⟨by omega,by omega⟩ (fun e=>by rw[hnd] at e;cases e)).congr (δ':=fun _=>0) fun i=>by split<;> omega
   rw[←e] at k
   show Inv N (gone (holdsDown t id) id)
   have hlk:=h.links n nm
   refine zgz k (by rw[yX hn,if_pos rfl]) ?_ fun e=>by rw[show n.dir=true from e] at hnd;cases hnd
   show 0≤n.links
   rw[hlk]
   unfold rootI
   split<;> omega
theorem zgG(h:Inv N t){id:Int}{n:NodeD}(hn:find t.nodes id=some n)(hnd:n.dir=false){v:ByteArray}(hv:v.size≤1048576){u:Int}(hu:u=t.used - n.data.size+v.size)(hc:u≤t.quota):Inv N ⟨t.quota,u,t.last,(dataOf t id v).nodes⟩:=by
 obtain⟨nm,ni⟩:=find_some hn
 have e:dataOf t id v=setN t {n with data:=v}:=by unfold dataOf;rw[at_some hn];rfl
 have ho:find t.nodes ({n with data:=v}:NodeD).id=some n:=by show find t.nodes n.id=_;rw[ni];exact hn
 have hcn:=zcP h.asc ho
 have hal:=h.alive n nm (by have:=(h.pos n nm).1;omega)
 rw[e]
 refine h.turn (n:={n with data:=v}) (y:=0) (δ':=fun _=>0) ho rfl (fun i=>⟨fun hi=> ?_,fun hi=> ?_⟩) (fun _ _ _ h=>h) (fun _=>hal) (h.holds n nm) (fun e=>by rw[show n.dir=true from e] at hnd;cases hnd) (h.files n nm) (h.leads n nm) (h.sorted n nm) (h.short n nm) (by show u=t.used - cost n+cost {n with data:=v};unfold cost;show u=t.used - ((64+n.data.size:Nat):Int)+((64+v.size:Nat):Int);omega) hc hv (Nat.add_le_add_right h.tot _) (Nat.le_refl N)
 ·have h1:=h.links n nm
  have h2:=hcn i
  have hi':n.id=i:=hi
  subst hi'
  have e2:cntN ({n with data:=v}:NodeD).names n.id=cntN n.names n.id:=rfl
  show n.links=_
  omega
 ·have h2:=hcn i
  have e2:cntN ({n with data:=v}:NodeD).names i=cntN n.names i:=rfl
  omega
theorem zaL(c:Nat):(noughts c).size=c:=by
 show((List.replicate c (0:UInt8)).toArray).size=c
 simp
theorem xy(d:ByteArray)(n:Nat):(resized d n).size=n:=by
 unfold resized
 rw[ByteArray.size_extract,ByteArray.size_append,zaL]
 omega
theorem sizedE_ok{x:NodeD}{n:Int}(h:sizedE t x n=0):n≤1048576∧n - x.data.size≤t.quota - t.used:=by
 unfold sizedE at h
 constructor
 ·by_cases c:1048576<n
  ·rw[decide_eq_true c] at h;simp at h
  ·omega
 ·by_cases c:t.quota - t.used<n - x.data.size
  ·by_cases c2:1048576<n
   ·rw[decide_eq_true c2] at h;simp at h
   ·rw[decide_eq_false c2,decide_eq_true c] at h;simp at h
  ·omega
theorem zgR{id n:Int}(h:fileE t id n=0): ∃ x,find t.nodes id=some x∧x.dir=false∧0≤n:=by
 unfold fileE at h
 cases h1:getE t id false==0 with
 |false=>rw[h1] at h;simp at h h1;exact absurd h h1
 |true=>
  obtain⟨x,hx,hxd⟩:=getE_ok (t:=t) (id:=id) (dir:=false) (by simpa using h1)
  rw[h1] at h
  refine⟨x,hx,hxd, ?_⟩
  by_cases c:n<0
  ·rw[decide_eq_true c] at h;simp at h
  ·omega
theorem zeq(h:Inv N t){id:Int}{x:NodeD}(hx:find t.nodes id=some x)(hxd:x.dir=false){n:Int}(h0:0≤n)(hE:sizedE t x n=0):Inv N (sizedT t id n):=by
 obtain⟨h1,h2⟩:=sizedE_ok hE
 unfold sizedT
 rw[at_some hx]
 exact zgG h hx hxd (v:=resized x.data n.toNat) (by rw[xy];omega) (by rw[xy];omega) (by omega)
theorem inv_trunc(h:Inv N t)(id n:Int):Inv N (trunc t id n).2:=by
 unfold trunc
 cases he:truncE t id n==0 with
 |false=>exact h
 |true=>
  have he':truncE t id n=0:=by simpa using he
  unfold truncE at he'
  cases h1:fileE t id n==0 with
  |false=>rw[h1] at he';simp at he' h1;exact absurd he' h1
  |true=>
   obtain⟨x,hx,hxd,h0⟩:=zgR (t:=t) (id:=id) (n:=n) (by simpa using h1)
   rw[h1,at_some hx] at he'
   exact zeq h hx hxd h0 he'
theorem zjH{id a:Int}{s:ByteArray}(h:writeE t id a s=0): ∃ x,find t.nodes id=some x∧x.dir=false∧0≤a∧(s.size≠0→sizedE t x (max (a+s.size) x.data.size)=0):=by
 unfold writeE at h
 cases h1:fileE t id a==0 with
 |false=>rw[h1] at h;simp at h h1;exact absurd h h1
 |true=>
  obtain⟨x,hx,hxd,h0⟩:=zgR (t:=t) (id:=id) (n:=a) (by simpa using h1)
  rw[h1,at_some hx] at h
  refine⟨x,hx,hxd,h0,fun hz=> ?_⟩
  have hz':(s.size==0)=false:=by simpa using hz
  rw[hz'] at h
  cases c:(decide (1048576<a)||decide (1048576 - a<s.size)) with
  |true=>rw[c] at h;simp at h
  |false=>rw[c] at h;exact h
theorem zjm{d:ByteArray}{a:Nat}{s:ByteArray}(h:a+s.size≤d.size):(over d a s).size=d.size:=by
 unfold over
 rw[ByteArray.size_append,ByteArray.size_append,ByteArray.size_extract,ByteArray.size_extract]
 omega
theorem inv_write(h:Inv N t)(id a:Int)(s:ByteArray):Inv N (write t id a s).2:=by
 unfold write
 cases he:writeE t id a s==0 with
 |false=>exact h
 |true=>
  obtain⟨x,hx,hxd,h0,hz⟩:=zjH (t:=t) (id:=id) (a:=a) (s:=s) (by simpa using he)
  show Inv N (writeT t id a s)
  unfold writeT
  cases hs:s.size==0 with
  |true=>exact h
  |false=>
   have hE:=hz (by simpa using hs)
   rw[at_some hx]
   have hi:=zeq h hx hxd (n:=max (a+s.size) x.data.size) (by omega) hE
   have hf:find (sizedT t id (max (a+s.size) x.data.size)).nodes id=some (x.setData (resized x.data (max (a+s.size) x.data.size).toNat)):=by
    unfold sizedT
    show find (dataOf t id _).nodes id=_
    rw[at_some hx,zbc hx,if_pos rfl]
   obtain⟨h1,_⟩:=sizedE_ok hE
   have hlen:(x.setData (resized x.data (max (a+s.size) x.data.size).toNat)).data.size=(max (a+s.size) (x.data.size:Int)).toNat:=xy _ _
   have hov:=zjm (d:=(x.setData (resized x.data (max (a+s.size) x.data.size).toNat)).data) (a:=a.toNat) (s:=s) (by rw[hlen];omega)
   show Inv N (overT _ id a s)
   unfold overT
   rw[at_some hf]
   exact zgG hi hf hxd (v:=over (x.setData (resized x.data (max (a+s.size) x.data.size).toNat)).data a.toNat s) (by rw[hov,hlen];omega) (by rw[hov];omega) hi.cap
theorem makeE_ok{dir:Int}{s:ByteArray}(h:makeE t dir s=0):emptyE t dir s=0∧t.nodes.length<4096∧64≤t.quota - t.used:=by
 unfold makeE at h
 cases h1:emptyE t dir s==0 with
 |false=>rw[h1] at h;simp at h h1;exact absurd h h1
 |true=>
  rw[h1] at h
  refine⟨by simpa using h1, ?_, ?_⟩
  ·by_cases c:4096≤(t.nodes.length:Int)
   ·rw[decide_eq_true c] at h;simp at h
   ·omega
  ·by_cases c:4096≤(t.nodes.length:Int)
   ·rw[decide_eq_true c] at h;simp at h
   ·by_cases c2:t.quota - t.used<64
    ·rw[decide_eq_false c,decide_eq_true c2] at h;simp at h
    ·omega
theorem yD{l:List NodeD}{n:NodeD}(hn: ∀ m∈l,m.id≠n.id)(x:Int):find (l++[n]) x=if x=n.id then some n else find l x:=by
 unfold find
 rw[List.find?_append]
 split
 ·rename_i hx
  subst hx
  rw[lcNz.2 fun m hm=>by simpa using hn m hm]
  simp
 ·rename_i hx
  have:(n.id==x)=false:=beq_eq_false_iff_ne.2 fun e=>hx e.symm
  simp[this]
theorem inv_make(h:Inv N t)(dir:Int)(s:ByteArray)(isDir:Bool):Inv (N+2) (make t dir s isDir).2.2:=by
 unfold make
 cases he:makeE t dir s==0 with
 |false=>exact h.more (by omega)
 |true=>
  obtain⟨h1,h2,h3⟩:=makeE_ok (t:=t) (dir:=dir) (s:=s) (by simpa using he)
  obtain⟨d,hd,hdd,hN,hl⟩:=emptyE_ok h1
  obtain⟨dm,di⟩:=find_some hd
  show Inv (N+2) (makeT t dir s isDir)
  -- ahead of the name's coming in:the table with the new inode,to which one name too few leads
  obtain⟨nn,hnn⟩: ∃ nn:NodeD,nn=⟨t.last+1,isDir,1,0,ByteArray.empty,[]⟩:=⟨_,rfl⟩
  have hid:nn.id=t.last+1:=by rw[hnn]
  have hnm:nn.names=[]:=by rw[hnn]
  have hlk:nn.links=1:=by rw[hnn]
  have hda:nn.data.size=0:=by rw[hnn];rfl
  have hho:nn.holds=0:=by rw[hnn]
  have hne: ∀ m∈t.nodes,m.id≠nn.id:=fun m hm=>by have:=(h.pos m hm).2;rw[hid];omega
  have hcnt: ∀ i,cnt (t.nodes++[nn]) i=cnt t.nodes i:=fun i=>by
   unfold cnt
   rw[laMz,ldUz,ldDz,hnm]
   simp[cntN]
  have hz:cnt t.nodes (t.last+1)=0:=by
   unfold cnt
   rw[List.sum_eq_zero_iff_forall_eq_nat]<;> skip
   intro k hk
   obtain⟨m,hm,rfl⟩:=laKz.1 hk
   unfold cntN
   rw[List.countP_eq_zero]
   intro p hp e
   obtain⟨q,hq⟩:=h.leads m hm p hp
   have:=(h.pos q (find_some hq).1).2
   rw[(find_some hq).2] at this
   have e':p.2=t.last+1:=by simpa using e
   omega
  have hmem: ∀ m∈t.nodes++[nn],m∈t.nodes∨m=nn:=fun m hm=>by simpa using hm
  have k0:InvD (fun i=>one (nn.id==i)) 0 (N+1) ⟨t.quota,t.used+64,t.last+1,t.nodes++[nn]⟩:=by
   refine {q0:=h.q0,q1:=h.q1,asc:= ?_,root:= ?_,pos:= ?_,last:=⟨by have:=h.last.1;show 1≤t.last+1;omega,by have:=h.last.2;show t.last+1≤((N+1:Nat):Int);omega⟩,links:= ?_,alive:= ?_,holds:= ?_,dirs:= ?_,files:= ?_,leads:= ?_,sorted:= ?_,short:= ?_,used:= ?_,cap:= ?_,data:= ?_,tot:= ?_}
   ·refine ldGz.2 ⟨h.asc,lcYz _ _,fun a ha b hb=> ?_⟩
    have:b=nn:=by simpa using hb
    subst this
    have:=(h.pos a ha).2
    omega
   ·obtain⟨r,hr,hrd⟩:=h.root
    refine⟨r, ?_,hrd⟩
    show find (t.nodes++[nn]) 1=_
    rw[yD hne,if_neg (by have:=h.last.1;omega)]
    exact hr
   ·intro m hm
    rcases hmem m hm with hm|rfl
    ·have:=h.pos m hm;exact⟨this.1,by show m.id≤t.last+1;omega⟩
    ·exact⟨by have:=h.last.1;omega,by show m.id≤t.last+1;omega⟩
   ·intro m hm
    show m.links=(cnt (t.nodes++[nn]) m.id:Int)+rootI m.id+one (nn.id==m.id)
    rw[hcnt]
    rcases hmem m hm with hm|rfl
    ·have:=h.links m hm
     have e:(nn.id==m.id)=false:=beq_eq_false_iff_ne.2 fun e=>hne m hm e.symm
     rw[e,this];rfl
    ·rw[hlk,hid,hz]
     have:rootI (t.last+1)=0:=by unfold rootI;rw[if_neg (by have:=h.last.1;omega)]
     rw[this]
     simp[one]
   ·intro m hm _
    rcases hmem m hm with hm|rfl
    ·exact h.alive m hm (by have:=(h.pos m hm).1;omega)
    ·exact⟨.inl (by omega),fun _=>hlk⟩
   ·intro m hm
    rcases hmem m hm with hm|rfl
    ·exact h.holds m hm
    ·omega
   ·intro m hm hmd
    rcases hmem m hm with hm|rfl
    ·exact h.dirs m hm hmd
    ·exact⟨hho,hda⟩
   ·intro m hm hmd
    rcases hmem m hm with hm|rfl
    ·exact h.files m hm hmd
    ·exact hnm
   ·intro m hm p hp
    rcases hmem m hm with hm|rfl
    ·obtain⟨q,hq⟩:=h.leads m hm p hp
     show ∃ q,find (t.nodes++[nn]) p.2=some q
     rw[yD hne]
     split
     ·exact⟨_,rfl⟩
     ·exact⟨q,hq⟩
    ·rw[hnm] at hp;cases hp
   ·intro m hm
    rcases hmem m hm with hm|rfl
    ·exact h.sorted m hm
    ·rw[hnm];exact List.Pairwise.nil
   ·intro m hm p hp
    rcases hmem m hm with hm|rfl
    ·exact h.short m hm p hp
    ·rw[hnm] at hp;cases hp
   ·have hu:=h.used
    show t.used+64=((In.sum (t.nodes++[nn]):Nat):Int)
    unfold In.sum at hu ⊢
    rw[laMz,ldUz]
    have e:([nn].map cost).sum=64:=by simp[cost,hda]
    rw[e]
    omega
   ·show t.used+64≤t.quota
    omega
   ·intro m hm
    rcases hmem m hm with hm|rfl
    ·exact h.data m hm
    ·omega
   ·have ht:=h.tot
    show In.tot (t.nodes++[nn])≤N+1
    unfold In.tot at ht ⊢
    rw[laMz,ldUz]
    simp[hnm]
    omega
  have hd':find (t.nodes++[nn]) dir=some d:=by
   rw[yD hne,if_neg (by have:=hne d dm;rw[di] at this;exact this)]
   exact hd
  have hk':find (t.nodes++[nn]) nn.id=some nn:=by rw[yD hne,if_pos rfl]
  have k1:=(Xm k0 hd' hdd (yI (YH h dm) hl) hk' (Ya hN) (by have:=(h.pos d dm).1;omega)).congr (δ':=fun _=>0) fun i=>by omega
  have e:nameIn ⟨t.quota,t.used+64,t.last+1,t.nodes++[nn]⟩ dir s nn.id=makeT t dir s isDir:=by
   unfold nameIn makeT
   rw[at_some (t:=⟨t.quota,t.used+64,t.last+1,t.nodes++[nn]⟩) hd',hid]
   unfold nameIn
   rw[at_some hd,←hnn]
   unfold setN
   simp only[TabD.mk.injEq,true_and]
   show set (t.nodes++[nn]) _=set t.nodes _++[nn]
   unfold set
   rw[laMz]
   congr 1
   have e2:(nn.id==(d.setNames (with_ d.names s (t.last+1))).id)=false:=beq_eq_false_iff_ne.2 fun e=>hne d dm e.symm
   simp only[laDz,lbBz,e2,Bool.false_eq_true,if_false]
  rw[e] at k1
  exact k1
end
end In
end
section
open Go.RowKit Go.Maps
theorem YP{N:Nat}{t:TabD}(h:In.Inv N t)(hN:N≤1000000000):Fit t where
 q0:=by have:=h.q0;omega
 q1:=h.q1
 u0:=by rw[h.used];omega
 u1:=by have:=h.cap;have:=h.q1;omega
 node:=fun n hn=>by
  have h1:=h.links n hn
  have h2:=In.cnt_le t.nodes n.id
  have h3:=h.tot
  have h4:n.names.length≤In.tot t.nodes:=In.le_sum (f:=fun n=>n.names.length) hn
  have h5:In.rootI n.id=0∨In.rootI n.id=1:=by unfold In.rootI;split<;> simp
  omega
 holds:=fun n hn=>by have:=h.holds n hn;omega
 data:=h.data
 ids:=fun n hn=>by have h1:=h.pos n hn;have h2:=h.last;exact Zy (by omega) (by omega)
 leads:=h.leads
theorem zkr{N:Nat}{t:TabD}(h:In.Inv N t)(hN:N≤1000000000): ∀ n∈t.nodes,n.names.length≤4611686018427:=fun n hn=>by
 have h3:=h.tot
 have h4:n.names.length≤In.tot t.nodes:=In.le_sum (f:=fun n=>n.names.length) hn
 omega
section
variable {w:World}{g mb:Nat}{β:Int→Nat×Nat}{t:TabD}{N:Nat}
theorem Goes.pre{w1 w':World}{t':TabD}(hb:Below w.heap.size w w1)(h:Goes w1 g mb β t w' t'):Goes w g mb β t w' t':=by
 obtain⟨β',h1,h2,h3⟩:=h
 exact⟨β',h1,(Only.of_below hb).trans h2,fun k hk=>by rcases h3 k hk with h|h;exact .inl h;exact .inr (Nat.le_trans hb.size h)⟩
theorem zhb(h:TblAt w g mb β t)(I:In.Inv N t)(hN:N≤1000000000){dir:Int}(hdir:Fits dir){s:ByteArray}(hs:s.size≤maxLen)(isDir:Bool):
  Calls Tryz.prog 106 #[.pointer (some ⟨g,0,none⟩),.int .i64 dir,.string s,.bool isDir] w fun e w'=>e= .returned (.tuple #[.int .i64 (In.make t dir s isDir).1,.int .i64 (In.make t dir s isDir).2.1])∧Goes w g mb β t w' (In.make t dir s isDir).2.2:=by
 have F:=YP I hN
 have hl:=I.last
 by_cases h0:In.makeE t dir s=0
 ·have e:In.make t dir s isDir=(t.last+1,0,In.makeT t dir s isDir):=by unfold In.make;rw[h0];rfl
  rw[e]
  exact zmL h F hdir hs isDir h0 (fun n hn=>(I.pos n hn).2) (by omega) (by omega)
 ·have e:In.make t dir s isDir=(0,In.makeE t dir s,t):=by unfold In.make;rw[zm h0];rfl
  rw[e]
  have hsum:t.nodes.length≤In.sum t.nodes:=by
   unfold In.sum
   generalize t.nodes=l
   induction l with
   |nil=>simp
   |cons y r ih=>rw[laDz,lcCz,laPz];unfold In.cost;unfold In.cost at ih;omega
  have hu:=I.used
  have hu1:=F.u1
  exact(zoz h F hdir hs isDir rfl h0 (by omega)).mono fun e w' ⟨h1,h2⟩=>⟨h1,(Step.below h h2).goes⟩
end
end
section
def XZ(md:Region.Mode)(ops:Array Oper)(j i:Nat):Bool:=((ops[j]?).map fun o=>o.after.any fun e=>Region.binds md e&&e.on==i).getD false
def xE (md : Region.Mode) (ops : Array Oper) (fl : List Nat) : List (Nat × Nat) → Array Bool → Bool → Bool
  | [], listed, _ => Region.ready md ops listed == []
  | (k, 4) :: (k', _) :: l, listed, on =>
    Region.ready md ops listed == [k, k'] && Region.ready md ops (listed.setIfInBounds k true) == [k'] && Region.ready md ops (listed.setIfInBounds k' true) == [k] && (listed.setIfInBounds k true).setIfInBounds k' true == (listed.setIfInBounds k' true).setIfInBounds k true && xE md ops fl l ((listed.setIfInBounds k true).setIfInBounds k' true) on
  | (k, c) :: l, listed, on =>
    (match c with
     | 0 => (Region.ready md ops listed).contains k && Region.free md ops listed k
     | 1 => on && fl.contains k && (Region.ready md ops listed).contains k && Region.free md ops listed k
     | 2 => Region.ready md ops listed == [k]
     | 3 => Region.ready md ops listed == [k] && fl.all fun i => XZ md ops k i
     | _ => false) && xE md ops fl l (listed.setIfInBounds k true) (on && decide (c < 3))
def YZ(md:Region.Mode)(ops:Array Oper)(fl:List Nat)(j:Nat):Bool:= !(fl.all fun i=>XZ md ops j i)
def XT(P:Program)(ops:Array Oper)(Q:Exit→Act→World→Prop)(S:World→Prop):List (Nat×Nat)→Act→World→Prop
 |[],a,w=>Q .normal a w
 |(k,0)::l,a,w=> ∃ o v,ops[k]? =some o∧YieldsIf P ops (fun _=>True) o v a∧XT P ops Q S l (a.put o.dst v) w
 |(k,1)::l,a,w=> ∃ o v,ops[k]? =some o∧YieldsIf P ops S o v a∧XT P ops Q S l (a.put o.dst v) w
 |(k,2)::l,a,w=> ∃ o,ops[k]? =some o∧if Region.wanted o (yielded ops a.tmps)=true then o.wp P a w (fun a' w'=>(S w→S w')∧XT P ops Q S l a' w') Q else XT P ops Q S l (a.put o.dst undef) w
 |(k,3)::l,a,w=> ∃ o,ops[k]? =some o∧if Region.wanted o (yielded ops a.tmps)=true then o.wp P a w (XT P ops Q S l) Q else XT P ops Q S l (a.put o.dst undef) w
 |(k,4)::(k',_)::l,a,w=> ∃ o o',ops[k]? =some o∧ops[k']? =some o'∧o.guard=none∧o'.guard=none∧
   o.wp P a w (fun a1 w1=>(S w→S w1)∧o'.wp P a1 w1 (fun a2 w2=>(S w1→S w2)∧XT P ops Q S l a2 w2) Q) Q∧
   o'.wp P a w (fun a1 w1=>(S w→S w1)∧o.wp P a1 w1 (fun a2 w2=>(S w1→S w2)∧XT P ops Q S l a2 w2) Q) Q
 |_,_,_=>False
section
variable {P:Program}{ops:Array Oper}{Q:Exit→Act→World→Prop}{S:World→Prop}{md:Region.Mode}
def zcy(P:Program)(md:Region.Mode)(ops:Array Oper)(Q:Exit→Act→World→Prop)(S:World→Prop)(N:Nat→Bool):Nat→Array Bool→Act→World→Prop
 |0,listed,a,w=>Region.ready md ops listed=[]∧Q .normal a w
 |fuel+1,listed,a,w=>
  (Region.ready md ops listed=[]→Q .normal a w)∧
  ∀ i∈Region.ready md ops listed,wpOp P ops Q i (fun a' w'=>(N i=true→S w→S w')∧zcy P md ops Q S N fuel (listed.setIfInBounds i true) a' w') a w
theorem zcj{N:Nat→Bool}: ∀ (fuel:Nat) (listed:Array Bool) (a:Act) (w:World),zcy P md ops Q S N fuel listed a w→wpAny P md ops Q fuel listed a w
 |0,_,_,_,h=>h
 |fuel+1,_,_,_,h=>⟨h.1,fun i hi=>wpOp_mono (fun a' w' h'=>zcj fuel _ a' w' h'.2) (h.2 i hi)⟩
theorem XK{N:Nat→Bool}{S':World→Prop}{i:Nat}{oi:Oper}{v:Value}(hi:ops[i]? =some oi)(hsel: ∀ (j:Nat) (o:Oper) cs b,ops[j]? =some o→o.op≠ .select cs b)
  (hQ: ∀ c a w,Q (.panic c) (a.put oi.dst v) w→Q (.panic c) a w)
  (hN: ∀ j oj,ops[j]? =some oj→j≠i→(∀ e∈oj.after,Region.binds md e=true→e.on≠i)→ ∀ w w',(N j=true→S w→S w')→S' w→S w→S' w'∧S w'∨S' w'∧S'=fun _=>True)
  (hT:(S'=fun _=>True)∨S'=S):
  ∀ (fuel:Nat) (listed:Array Bool) (a:Act) (w:World),
   (∀ j oj,ops[j]? =some oj→j≠i→listed.getD j true=false→(∀ e∈oj.after,Region.binds md e=true→e.on≠i)→oi.apart ops oj=true)→
   i∈Region.ready md ops listed→YieldsIf P ops S' oi v a→S' w→
   zcy P md ops Q S N fuel (listed.setIfInBounds i true) (a.put oi.dst v) w→zcy P md ops Q S N (fuel+1) listed a w:=by
 intro fuel
 induction fuel with
 |zero=>
  intro listed a w _ hr hy hS H
  refine⟨fun h=>(by rw[h] at hr;cases hr),fun j hj=> ?_⟩
  by_cases hji:j=i
  ·subst hji;exact hy.wpOp hi hS ⟨fun _ h=>h,H⟩
  ·have:=ready_mono hj hji
   rw[H.1] at this
   cases this
 |succ fuel ih=>
  intro listed a w hfree hr hy hS H
  refine⟨fun h=>(by rw[h] at hr;cases hr),fun j hj=> ?_⟩
  by_cases hji:j=i
  ·subst hji;exact hy.wpOp hi hS ⟨fun _ h=>h,H⟩
  ·have h1:=H.2 j (ready_mono hj hji)
   obtain⟨hjun,oj,hoj,hall⟩:=mem_ready.1 hj
   have hnot: ∀ e∈oj.after,Region.binds md e=true→e.on≠i:=fun e he hb heq=>by
    have h1:=hall e he hb
    have h0:=(mem_ready.1 hr).1
    rw[heq] at h1
    rcases Nat.lt_or_ge i listed.size with h' |h'
    ·simp[h'] at h0 h1;rw[h0] at h1;cases h1
    ·simp[Array.getElem?_eq_none h'] at h1
   have h2:=wpOp_putIf hoj (hfree j oj hoj hji hjun hnot) (fun cs b=>hsel i oi cs b hi) (fun cs b=>hsel j oj cs b hoj) hQ hy h1
   have hfree': ∀ k ok,ops[k]? =some ok→k≠i→(listed.setIfInBounds j true).getD k true=false→
     (∀ e∈ok.after,Region.binds md e=true→e.on≠i)→oi.apart ops ok=true:=fun k ok hk hki hun hno=>by
    refine hfree k ok hk hki ?_ hno
    by_cases hjk:j=k
    ·subst hjk;exact hjun
    ·rw[getD_set_ne true hjk] at hun;exact hun
   refine wpOp_mono (fun a' w' h3=>⟨h3.2.1,ih (listed.setIfInBounds j true) a' w' hfree' (ready_mono hr (Ne.symm hji)) h3.1 ?_ ?_⟩) h2
   ·rcases hT with rfl|rfl
    ·trivial
    ·rcases hN j oj hoj hji hnot w w' h3.2.1 hS hS with h|h
     ·exact h.1
     ·exact h.1
   ·rw[Array.setIfInBounds_comm _ _ hji]
    exact h3.2.2
theorem zcV{j i:Nat}{oj:Oper}(hj:ops[j]? =some oj)(h:XZ md ops j i=true): ∃ e∈oj.after,Region.binds md e=true∧e.on=i:=by
 unfold XZ at h
 rw[hj] at h
 simp only[Option.map_some,Option.getD_some,Array.any_eq_true,Bool.and_eq_true,beq_iff_eq] at h
 obtain⟨n,hn,h1,h2⟩:=h
 exact⟨_,Array.getElem_mem hn,h1,h2⟩
theorem Zi(hs:Region.noSelect ops=true)(hQ: ∀ d v c a w,Q (.panic c) (Act.put a d v) w→Q (.panic c) a w)(fl:List Nat): ∀ (l:List (Nat×Nat)) (listed:Array Bool) (a:Act) (w:World) (on:Bool),
  xE md ops fl l listed on=true→(on=true→S w)→XT P ops Q S l a w→zcy P md ops Q S (YZ md ops fl) l.length listed a w
 |[],_,_,_,_,hB,_,h=>⟨by simpa[xE] using hB,h⟩
 |(k,0)::l,listed,a,w,on,hB,hS,h=>by
  simp only[xE,Bool.and_eq_true] at hB
  obtain⟨o,v,ho,hy,hK⟩:=h
  exact XK (S':=fun _=>True) ho (Region.noSelect_spec hs) (hQ _ _) (fun _ _ _ _ _ _ _ _ _ _=> .inr ⟨trivial,rfl⟩) (.inl rfl) l.length listed a w (Region.free_spec ho hB.1.2) (by simpa using hB.1.1) hy trivial
   (Zi hs hQ fl l _ _ _ _ hB.2 (fun h=>hS (by simp only[Bool.and_eq_true] at h;exact h.1)) hK)
 |(k,1)::l,listed,a,w,on,hB,hS,h=>by
  simp only[xE,Bool.and_eq_true] at hB
  obtain⟨⟨⟨⟨hon,hfl⟩,hr⟩,hf⟩,hB2⟩:=hB
  obtain⟨o,v,ho,hy,hK⟩:=h
  refine XK (S':=S) ho (Region.noSelect_spec hs) (hQ _ _) (fun j oj hj hji hno w w' hk hS1 _=> .inl ?_) (.inr rfl) l.length listed a w (Region.free_spec ho hf) (by simpa using hr) hy (hS hon)
   (Zi hs hQ fl l _ _ _ _ hB2 (fun h=>hS hon) hK)
  have hm:YZ md ops fl j=true:=by
   unfold YZ
   rw[Bool.not_eq_true',Bool.eq_false_iff]
   intro hall
   have hw:=(ldRz.1 hall) k (by simpa using hfl)
   obtain⟨e,he,hb,hek⟩:=zcV hj hw
   exact hno e he hb hek
  exact⟨hk hm hS1,hk hm hS1⟩
 |(k,2)::l,listed,a,w,on,hB,hS,h=>by
  simp only[xE,Bool.and_eq_true] at hB
  obtain⟨o,ho,h⟩:=h
  have hr:Region.ready md ops listed=[k]:=by simpa using hB.1
  refine⟨fun h0=>(by rw[hr] at h0;cases h0),fun i hi=> ?_⟩
  rw[hr] at hi
  obtain rfl:i=k:=by simpa using hi
  unfold wpOp
  simp only[ho]
  split
  ·rename_i hw
   rw[if_pos hw] at h
   exact .inl (Oper.wp_mono (fun a' w' h'=>⟨fun _ hs'=>h'.1 hs',Zi hs hQ fl l _ _ _ _ hB.2 (fun h=>h'.1 (hS (by simp only[Bool.and_eq_true] at h;exact h.1))) h'.2⟩) h)
  ·rename_i hw
   rw[if_neg hw] at h
   exact⟨fun _ h=>h,Zi hs hQ fl l _ _ _ _ hB.2 (fun h=>hS (by simp only[Bool.and_eq_true] at h;exact h.1)) h⟩
 |(k,3)::l,listed,a,w,on,hB,hS,h=>by
  simp only[xE,Bool.and_eq_true] at hB
  obtain⟨o,ho,h⟩:=h
  have hr:Region.ready md ops listed=[k]:=by simpa using hB.1.1
  have hoff: ∀ b:Bool,(b&&decide (3<3))=false:=fun b=>by simp
  have hB2:=hB.2
  rw[hoff] at hB2
  have hk:YZ md ops fl k=false:=by unfold YZ;rw[hB.1.2];rfl
  refine⟨fun h0=>(by rw[hr] at h0;cases h0),fun i hi=> ?_⟩
  rw[hr] at hi
  obtain rfl:i=k:=by simpa using hi
  unfold wpOp
  simp only[ho]
  split
  ·rename_i hw
   rw[if_pos hw] at h
   exact .inl (Oper.wp_mono (fun a' w' h'=>⟨fun h _=>(by rw[hk] at h;cases h),Zi hs hQ fl l _ _ _ _ hB2 (fun h=>by cases h) h'⟩) h)
  ·rename_i hw
   rw[if_neg hw] at h
   exact⟨fun _ h=>h,Zi hs hQ fl l _ _ _ _ hB2 (fun h=>by cases h) h⟩
 |(k,4)::(k',c')::l,listed,a,w,on,hB,hS,h=>by
  simp only[xE,Bool.and_eq_true] at hB
  obtain⟨⟨⟨⟨h1,h2⟩,h3⟩,h4⟩,hB2⟩:=hB
  obtain⟨o,o',ho,ho',hg,hg',ha,hb⟩:=h
  have r1:Region.ready md ops listed=[k,k']:=by simpa using h1
  have r2:Region.ready md ops (listed.setIfInBounds k true)=[k']:=by simpa using h2
  have r3:Region.ready md ops (listed.setIfInBounds k' true)=[k]:=by simpa using h3
  have r4:(listed.setIfInBounds k true).setIfInBounds k' true=(listed.setIfInBounds k' true).setIfInBounds k true:=by simpa using h4
  have wn: ∀ (o:Oper) (y:Nat→Option Bool),o.guard=none→Region.wanted o y=true:=fun o y h=>by unfold Region.wanted;rw[h]
  have fin: ∀ a' w',(on=true→S w')→XT P ops Q S l a' w'→zcy P md ops Q S (YZ md ops fl) l.length ((listed.setIfInBounds k true).setIfInBounds k' true) a' w':=fun a' w' hs' h'=>Zi hs hQ fl l _ _ _ _ hB2 hs' h'
  refine⟨fun h0=>(by rw[r1] at h0;cases h0),fun i hi=> ?_⟩
  rw[r1] at hi
  rcases laBz.1 hi with rfl|hi
  ·unfold wpOp
   simp only[ho,wn o _ hg,if_true]
   refine .inl (Oper.wp_mono (fun a1 w1 h'=>⟨fun _=>h'.1,fun h0=>(by rw[r2] at h0;cases h0),fun j hj=> ?_⟩) ha)
   rw[r2] at hj
   obtain rfl:j=k':=by simpa using hj
   unfold wpOp
   simp only[ho',wn o' _ hg',if_true]
   exact .inl (Oper.wp_mono (fun a2 w2 h''=>⟨fun _=>h''.1,fin a2 w2 (fun hon=>h''.1 (h'.1 (hS hon))) h''.2⟩) h'.2)
  ·obtain rfl:i=k':=by simpa using hi
   unfold wpOp
   simp only[ho',wn o' _ hg',if_true]
   refine .inl (Oper.wp_mono (fun a1 w1 h'=>⟨fun _=>h'.1,fun h0=>(by rw[r3] at h0;cases h0),fun j hj=> ?_⟩) hb)
   rw[r3] at hj
   obtain rfl:j=k:=by simpa using hj
   unfold wpOp
   simp only[ho,wn o _ hg,if_true]
   rw[←r4]
   exact .inl (Oper.wp_mono (fun a2 w2 h''=>⟨fun _=>h''.1,fin a2 w2 (fun hon=>h''.1 (h'.1 (hS hon))) h''.2⟩) h'.2)
 |[(k,4)],_,_,_,_,_,_,h=>h.elim
 |(k,c+5)::l,_,_,_,_,_,_,h=>h.elim
end
section
variable {P:Program}{Q:Exit→Act→World→Prop}{K:Act→World→Prop}{S:World→Prop}{a:Act}{w:World}{ops:Array Oper}{l:List (Nat×Nat)}{k:Nat}{o:Oper}
def zQ(K:Act→World→Prop):Exit→Act→World→Prop
 | .normal,a,w=>K a w
 |_,_,_=>False
theorem zQ.put(d:Option Tmp)(v:Value)(c:List PanicEntry)(a:Act)(w:World)(h:zQ K (.panic c) (Act.put a d v) w):zQ K (.panic c) a w:=h
theorem zQ.imp(h: ∀ a w,K a w→Q .normal a w): ∀ (e:Exit) (a:Act) (w:World),zQ K e a w→Q e a w:=fun e a w hk=>by
 cases e<;> first|exact h _ _ hk|exact(hk:False).elim
theorem zcB{id:Nat}(S:World→Prop)(fl:List Nat)(l:List (Nat×Nat))(hm:P.follows .mixedOrders=true)(hB:(Region.noSelect ops&&(l.length==ops.size&&xE .any ops fl l (Array.replicate ops.size false) true))=true)(hS:S w.drew)
  (h: ∀ K:Act→World→Prop,Shut (∀ a w,Q .normal a w→K a w)→XT P ops (zQ K) S l a w.drew):(Code.region id ops true).wp P Q a w:=by
 simp only[Bool.and_eq_true] at hB
 refine Code.wp_mono (zQ.imp (K:=fun a w=>Q .normal a w) fun _ _ h=>h) (wp_region_any hm ?_)
 have hl:l.length=ops.size:=by simpa using hB.2.1
 rw[←hl]
 exact zcj _ _ _ _ (Zi (S:=S) (md:= .any) hB.1 zQ.put fl l _ a w.drew true (by rw[hl];exact hB.2.2) (fun _=>hS) (h _ fun _ _ h=>h))
/-! ### The operations themselves in their order -/
def zg(P:Program)(ops:Array Oper)(K:Act→World→Prop)(S:World→Prop):List (Oper×Nat)→Act→World→Prop
 |[],a,w=>K a w
 |(o,0)::l,a,w=> ∃ v,YieldsIf P ops (fun _=>True) o v a∧zg P ops K S l (a.put o.dst v) w
 |(o,1)::l,a,w=> ∃ v,YieldsIf P ops S o v a∧zg P ops K S l (a.put o.dst v) w
 |(o,2)::l,a,w=>if Region.wanted o (yielded ops a.tmps)=true then o.wp P a w (fun a' w'=>(S w→S w')∧zg P ops K S l a' w') (zQ K) else zg P ops K S l (a.put o.dst undef) w
 |(o,3)::l,a,w=>if Region.wanted o (yielded ops a.tmps)=true then o.wp P a w (zg P ops K S l) (zQ K) else zg P ops K S l (a.put o.dst undef) w
 |(o,4)::(o',_)::l,a,w=>o.guard=none∧o'.guard=none∧
   o.wp P a w (fun a1 w1=>(S w→S w1)∧o'.wp P a1 w1 (fun a2 w2=>(S w1→S w2)∧zg P ops K S l a2 w2) (zQ K)) (zQ K)∧
   o'.wp P a w (fun a1 w1=>(S w→S w1)∧o.wp P a1 w1 (fun a2 w2=>(S w1→S w2)∧zg P ops K S l a2 w2) (zQ K)) (zQ K)
 |_,_,_=>False
def Xb(l:List Oper):List (Nat×Nat)→List (Oper×Nat)
 |[]=>[]
 |(k,c)::r=>(l.getD k default,c)::Xb l r
theorem Zj{os:List Oper}: ∀ (l:List (Nat×Nat)) (a:Act) (w:World),(l.all fun x=>decide (x.1<os.length))=true→zg P os.toArray K S (Xb os l) a w→XT P os.toArray (zQ K) S l a w
 |[],_,_,_,h=>h
 |(k,0)::l,a,w,hB,h=>by
  simp only[List.all_cons,Bool.and_eq_true,decide_eq_true_eq] at hB
  obtain⟨v,h1,h2⟩:=h
  exact⟨_,v,by simp[laRz hB.1,List.getD],h1,Zj l _ _ hB.2 h2⟩
 |(k,1)::l,a,w,hB,h=>by
  simp only[List.all_cons,Bool.and_eq_true,decide_eq_true_eq] at hB
  obtain⟨v,h1,h2⟩:=h
  exact⟨_,v,by simp[laRz hB.1,List.getD],h1,Zj l _ _ hB.2 h2⟩
 |(k,2)::l,a,w,hB,h=>by
  simp only[List.all_cons,Bool.and_eq_true,decide_eq_true_eq] at hB
  refine⟨os.getD k default,by simp[laRz hB.1,List.getD], ?_⟩
  have h:if Region.wanted (os.getD k default) (yielded os.toArray a.tmps)=true then(os.getD k default).wp P a w (fun a' w'=>(S w→S w')∧zg P os.toArray K S (Xb os l) a' w') (zQ K) else zg P os.toArray K S (Xb os l) (a.put (os.getD k default).dst undef) w:=h
  split
  ·rename_i hw
   rw[if_pos hw] at h
   exact Oper.wp_mono (fun a' w' h'=>⟨h'.1,Zj l _ _ hB.2 h'.2⟩) h
  ·rename_i hw
   rw[if_neg hw] at h
   exact Zj l _ _ hB.2 h
 |(k,3)::l,a,w,hB,h=>by
  simp only[List.all_cons,Bool.and_eq_true,decide_eq_true_eq] at hB
  refine⟨os.getD k default,by simp[laRz hB.1,List.getD], ?_⟩
  have h:if Region.wanted (os.getD k default) (yielded os.toArray a.tmps)=true then(os.getD k default).wp P a w (zg P os.toArray K S (Xb os l)) (zQ K) else zg P os.toArray K S (Xb os l) (a.put (os.getD k default).dst undef) w:=h
  split
  ·rename_i hw
   rw[if_pos hw] at h
   exact Oper.wp_mono (fun a' w' h'=>Zj l _ _ hB.2 h') h
  ·rename_i hw
   rw[if_neg hw] at h
   exact Zj l _ _ hB.2 h
 |(k,4)::(k',c')::l,a,w,hB,h=>by
  simp only[List.all_cons,Bool.and_eq_true,decide_eq_true_eq] at hB
  obtain⟨g1,g2,g3,g4⟩:=h
  refine⟨os.getD k default,os.getD k' default,by simp[laRz hB.1,List.getD],by simp[laRz hB.2.1,List.getD],g1,g2, ?_, ?_⟩
  ·exact Oper.wp_mono (fun a1 w1 h1=>⟨h1.1,Oper.wp_mono (fun a2 w2 h2=>⟨h2.1,Zj l _ _ hB.2.2 h2.2⟩) h1.2⟩) g3
  ·exact Oper.wp_mono (fun a1 w1 h1=>⟨h1.1,Oper.wp_mono (fun a2 w2 h2=>⟨h2.1,Zj l _ _ hB.2.2 h2.2⟩) h1.2⟩) g4
 |[(k,4)],_,_,_,h=>h.elim
 |(k,c+5)::l,_,_,_,h=>h.elim
def XL:List Oper→List (Oper×Nat)
 |[]=>[]
 |o::l=>(o,3)::XL l
theorem Yt{os:Array Oper}: ∀ (l:List Oper) (n:Nat) (a:Act) (w:World),(∀ j,l[j]? =os[n+j]?)→zg P os K S (XL l) a w→wpOps P os (zQ K) (List.range' n l.length) a w
 |[],_,_,_,_,h=>h
 |o::l,n,a,w,hl,h=>by
  have h0:os[n]? =some o:=by simpa using (hl 0).symm
  have hl': ∀ j,l[j]? =os[n+1+j]? :=fun j=>by have:=hl (j+1);simpa[Nat.add_assoc,Nat.add_comm 1 j] using this
  rw[laPz,List.range'_succ]
  unfold wpOps
  simp only[h0]
  have h:if Region.wanted o (yielded os a.tmps)=true then o.wp P a w (zg P os K S (XL l)) (zQ K) else zg P os K S (XL l) (a.put o.dst undef) w:=h
  split
  ·rename_i hw
   rw[if_pos hw] at h
   exact .inl (Oper.wp_mono (fun a' w' h'=>Yt l (n+1) _ _ hl' h') h)
  ·rename_i hw
   rw[if_neg hw] at h
   exact Yt l (n+1) _ _ hl' h
theorem zbz{id:Nat}{os:List Oper}(S:World→Prop)(h: ∀ K:Act→World→Prop,Shut (∀ a w,Q .normal a w→K a w)→zg P os.toArray K S (XL os) a w):(Code.region id os.toArray false).wp P Q a w:=by
 refine Code.wp_mono (zQ.imp (K:=fun a w=>Q .normal a w) fun _ _ h=>h) (wp_region ?_)
 rw[List.range_eq_range',List.size_toArray]
 exact Yt os 0 a w (fun j=>by simp) (h _ fun _ _ h=>h)
theorem zav{id:Nat}{os:List Oper}(S:World→Prop)(fl:List Nat)(l:List (Nat×Nat))(hm:P.follows .mixedOrders=true)(hB:((Region.noSelect os.toArray&&(l.length==os.toArray.size&&xE .any os.toArray fl l (Array.replicate os.toArray.size false) true))&&l.all fun x=>decide (x.1<os.length))=true)(hS:S w.drew)
  (h: ∀ K:Act→World→Prop,Shut (∀ a w,Q .normal a w→K a w)→zg P os.toArray K S (Xb os l) a w.drew):(Code.region id os.toArray true).wp P Q a w:=by
 simp only[Bool.and_eq_true] at hB
 exact zcB S fl l hm (by simp only[Bool.and_eq_true];exact hB.1) hS (fun K hK=>Zj l a w.drew hB.2 (h K hK))
/-! ### Steps -/
section
variable {l:List (Oper×Nat)}
theorem zjb(h:K a w):zg P ops K S [] a w:=h
theorem Xk{v:Value}(hw:Region.wanted o (yielded ops a.tmps)=true)(hy: ∀ w,(execOp a.eval o).run P w= .ok (.value v) w)(h:zg P ops K S l (a.put o.dst v) w):zg P ops K S ((o,0)::l) a w:=
 ⟨v,.inl ⟨hw,fun w _=>hy w⟩,h⟩
theorem yh{v:Value}(hw:Region.wanted o (yielded ops a.tmps)=true)(hy: ∀ w,S w→(execOp a.eval o).run P w= .ok (.value v) w)(h:zg P ops K S l (a.put o.dst v) w):zg P ops K S ((o,1)::l) a w:=
 ⟨v,.inl ⟨hw,hy⟩,h⟩
theorem zaS(hw:Region.wanted o (yielded ops a.tmps)=true)(h: ∀ K':Act→World→Prop,Shut (∀ a w',(S w→S w')→zg P ops K S l a w'→K' a w')→o.wp P a w K' (zQ K)):zg P ops K S ((o,2)::l) a w:=by
 show if _ then _ else _
 rw[if_pos hw];exact h _ (fun a w hS hl=>⟨hS,hl⟩)
theorem zba(hw:Region.wanted o (yielded ops a.tmps)=true)(h: ∀ K':Act→World→Prop,Shut (∀ a w',zg P ops K S l a w'→K' a w')→o.wp P a w K' (zQ K)):zg P ops K S ((o,3)::l) a w:=by
 show if _ then _ else _
 rw[if_pos hw];exact h _ (fun a w hl=>hl)
theorem ziX{c:Nat}(hc:(c==0||c==1||c==2||c==3)=true)(hw:Region.wanted o (yielded ops a.tmps)=false)(h:zg P ops K S l (a.put o.dst undef) w):zg P ops K S ((o,c)::l) a w:=by
 match c with
 |0=>exact⟨undef,.inr ⟨hw,rfl⟩,h⟩
 |1=>exact⟨undef,.inr ⟨hw,rfl⟩,h⟩
 |2=>show if _ then _ else _;rw[if_neg (by simp[hw])];exact h
 |3=>show if _ then _ else _;rw[if_neg (by simp[hw])];exact h
 |c+4=>cases hc
theorem Xx{o':Oper}{c:Nat}(hg:o.guard=none)(hg':o'.guard=none)
  (ha:o.wp P a w (fun a1 w1=>(S w→S w1)∧o'.wp P a1 w1 (fun a2 w2=>(S w1→S w2)∧zg P ops K S l a2 w2) (zQ K)) (zQ K))
  (hb:o'.wp P a w (fun a1 w1=>(S w→S w1)∧o.wp P a1 w1 (fun a2 w2=>(S w1→S w2)∧zg P ops K S l a2 w2) (zQ K)) (zQ K)):zg P ops K S ((o,4)::(o',c)::l) a w:=
 ⟨hg,hg',ha,hb⟩
theorem zB{c:Nat}(hc:(c==2||c==3)=true){v:Value}(hw:Region.wanted o (yielded ops a.tmps)=true)(hy:(execOp a.eval o).run P w= .ok (.value v) w)(h:zg P ops K S l (a.put o.dst v) w):zg P ops K S ((o,c)::l) a w:=by
 match c with
 |0=>cases hc
 |1=>cases hc
 |2=>exact zaS hw fun K' hK=>by unfold Oper.wp;rw[hy];exact hK.out _ _ id h
 |3=>exact zba hw fun K' hK=>by unfold Oper.wp;rw[hy];exact hK.out _ _ h
 |c+4=>simp at hc
theorem zM{c:Nat}(hc:(c==2||c==3)=true){w':World}{n:Next}(hw:Region.wanted o (yielded ops a.tmps)=true)(hy:(execOp a.eval o).run P w= .ok n w'){v:Value}(hn:n= .value v∨n= .skip∧v=undef)(hS:c=2→S w→S w')(h:zg P ops K S l (a.put o.dst v) w'):zg P ops K S ((o,c)::l) a w:=by
 match c with
 |0=>cases hc
 |1=>cases hc
 |2=>
  refine zaS hw fun K' hK=> ?_
  unfold Oper.wp
  rw[hy]
  rcases hn with rfl|⟨rfl,rfl⟩
  ·exact hK.out _ _ (hS rfl) h
  ·exact hK.out _ _ (hS rfl) h
 |3=>
  refine zba hw fun K' hK=> ?_
  unfold Oper.wp
  rw[hy]
  rcases hn with rfl|⟨rfl,rfl⟩
  ·exact hK.out _ _ h
  ·exact hK.out _ _ h
 |c+4=>simp at hc
theorem xq{c:Nat}(hc:(c==2||c==3)=true){f:FuncId}{args:Array Value}(hw:Region.wanted o (yielded ops a.tmps)=true)(hy:(execOp a.eval o).run P w= .ok (.enter f args) w){R:Ending→World→Prop}(hC:Calls P f args w R)
  (h: ∀ e w',R e w'→ ∃ v,e= .returned v∧(c=2→S w→S w')∧zg P ops K S l (a.put o.dst v) w'):zg P ops K S ((o,c)::l) a w:=by
 match c with
 |0=>cases hc
 |1=>cases hc
 |2=>
  refine zaS hw fun K' hK=> ?_
  unfold Oper.wp
  rw[hy]
  refine hC.mono fun e w' he=> ?_
  obtain⟨v,rfl,hS,hn⟩:=h e w' he
  exact hK.out _ _ (hS rfl) hn
 |3=>
  refine zba hw fun K' hK=> ?_
  unfold Oper.wp
  rw[hy]
  refine hC.mono fun e w' he=> ?_
  obtain⟨v,rfl,hS,hn⟩:=h e w' he
  exact hK.out _ _ hn
 |c+4=>simp at hc
end
end
attribute [irreducible] zg
end
section
def rowB(P:Program)(t:TypeId)(n:Nat):Bool:=
 (match P.underlying t with|some d=>d.isRow|none=>false)&&((P.info? t).map (·.size)==some n)
section
variable {P:Program}{ops:Array Oper}{Q:Exit→Act→World→Prop}{a:Act}{w:World}{op:Oper}
theorem YL{t:TypeId}{n:Nat}(h:rowB P t n=true): ∃ d,P.underlying t=some d∧d.isRow=true∧(P.info? t).map (·.size)=some n:=by
 unfold rowB at h
 simp only[Bool.and_eq_true] at h
 obtain⟨h1,h2⟩:=h
 cases hu:P.underlying t with
 |none=>rw[hu] at h1;cases h1
 |some d=>rw[hu] at h1;exact⟨d,rfl,h1,by simpa using h2⟩
end
/-! ### Blocks that are known whole -/
def Blk(w:World)(b:Nat)(cs:List Value)(t:TypeId):Prop:=w.heap[b]? =some (.cells cs.toArray t (0,0))
section
variable {w w':World}{b:Nat}{cs:List Value}{t:TypeId}
theorem Blk.lt(h:Blk w b cs t):b<w.heap.size:=(Array.getElem?_eq_some_iff.1 h).1
theorem Blk.cell(h:Blk w b cs t)(o:Nat):w.cell? ⟨b,o,none⟩=cs[o]? :=by
 unfold Blk at h
 unfold World.cell?
 simp only[h]
 simp
theorem Blk.free(h:Blk w b cs t)(o:Nat):w.frozen? ⟨b,o,none⟩=false:=by
 unfold World.frozen?
 unfold Blk at h
 simp only[h]
 simp
theorem Blk.range(h:Blk w b cs t):w.rangeAt b 0 cs:=fun j v hv=>by rw[h.cell,Nat.zero_add];exact hv
theorem Blk.part(h:Blk w b cs t)(o:Nat)(vs:List Value)(hv:(cs.drop o).take vs.length=vs):w.rangeAt b o vs:=fun j v hj=>by
 have hl:j<vs.length:=(laHz.1 hj).1
 have e:vs[j]? =cs[o+j]? :=by
  have:((cs.drop o).take vs.length)[j]? =cs[o+j]? :=by rw[lcKz,if_pos hl,lcFz]
  rw[hv] at this
  exact this
 rw[h.cell,←e,hj]
theorem Blk.there(h:Blk w b cs t)(o n:Nat)(hn:o+n≤cs.length):w.there b o n:=fun j hj=>
 ⟨by rw[h.cell,laRz (by omega)];rfl,h.free _⟩
def over(cs:List Value)(o:Nat):List Value→List Value
 |[]=>cs
 |v::r=>over (cs.set o v) (o+1) r
theorem Blk.setCell(h:Blk w b cs t)(o:Nat)(v:Value):Blk (w.setCell ⟨b,o,none⟩ v) b (cs.set o v) t:=by
 unfold Blk at*
 have hb:=(Array.getElem?_eq_some_iff.1 h).1
 simp only[World.setCell,Array.getElem?_modify,h]
 simp
theorem Blk.setCells(h:Blk w b cs t): ∀ (vs:List Value) (o:Nat),Blk (w.setCells b o vs) b (over cs o vs) t:=by
 intro vs
 induction vs generalizing w cs with
 |nil=>intro o;exact h
 |cons v r ih=>intro o;exact ih (h.setCell o v) (o+1)
theorem Blk.drew(h:Blk w b cs t):Blk w.drew b cs t:=h
theorem Blk.drewN(h:Blk w b cs t)(n:Nat):Blk (w.drewN n) b cs t:=h
end
end
end Go.Proofs.YtcicjklhbnipcaaGreatDoor
