import Derived.Test.YtfpeabnehpclnaaGreatI
import Derived.Test.YtfpeabnehpclnaaGreatTPDG
import Derived.Test.YtfpeabnehpclnaaGreatTF
namespace Go.Proofs.YtfpeabnehpclnaaGreatT
open Go Go.Proofs Go.Proofs.YtfpeabnehpclnaaGreatE
set_option linter.unusedVariables false
set_option linter.unusedSimpArgs false
def lx:List Int→List Int→Prop
 | a::p,b::q=>a < b∨(a=b∧lx p q)
 | _,_=>False
theorem LJ:∀ {p:List Int},¬ lx p p
 | [],h=>h
 | a::p,h=>by
  rcases h with h | ⟨_,h⟩
  ·exact absurd h (by omega)
  ·exact LJ h
theorem JY:∀ {p q r:List Int},lx p q→lx q r→lx p r
 | a::p,b::q,c::r,h,h'=>by
  rcases h with h | ⟨rfl,h⟩
  ·rcases h' with h' | ⟨rfl,h'⟩
   ·exact .inl (by omega)
   ·exact .inl h
  ·rcases h' with h' | ⟨rfl,h'⟩
   ·exact .inl h'
   ·exact .inr ⟨rfl,JY h h'⟩
 | [],_,_,h,_=>h.elim
 | _::_,[],_,h,_=>h.elim
 | _::_,_::_,[],_,h=>h.elim
def lxe (p q:List Int):Prop:=p=q∨lx p q
theorem zT (p:List Int):lxe p p := .inl rfl
theorem Hu {p q r:List Int} (h:lxe p q) (h':lxe q r):lxe p r:=by
 rcases h with rfl | h
 ·exact h'
 ·rcases h' with rfl | h'
  ·exact .inr h
  ·exact .inr (JY h h')
theorem IR:∀ {p q:List Int} {a b:Int},p.length=q.length→(lx (p++[a]) (q++[b])↔lx p q∨(p=q∧a < b))
 | [],[],a,b,_=>by simp [lx]
 | x::p,y::q,a,b,h=>by
  have ih:=IR (p:=p) (q:=q) (a:=a) (b:=b) (by simpa using h)
  simp only [List.cons_append,lx,ih,List.cons.injEq]
  constructor
  ·rintro (h | ⟨h1,h | ⟨h2,h3⟩⟩)
   ·exact .inl (.inl h)
   ·exact .inl (.inr ⟨h1,h⟩)
   ·exact .inr ⟨⟨h1,h2⟩,h3⟩
  ·rintro ((h | ⟨h1,h⟩) | ⟨⟨h1,h2⟩,h3⟩)
   ·exact .inl h
   ·exact .inr ⟨h1,.inl h⟩
   ·exact .inr ⟨h1,.inr ⟨h2,h3⟩⟩
 | [],_::_,_,_,h=>by simp at h
 | _::_,[],_,_,h=>by simp at h
theorem Qg {p q:List Int} {a:Int} (hl:p.length=q.length) (h:lxe p q):lxe (p++[a]) (q++[a]):=by
 rcases h with rfl | h
 ·exact .inl rfl
 ·exact .inr ((IR hl).2 (.inl h))
section
variable {S:Type} (ext:S→Int→Option S)
def run (x:S):List Int→Option S
 | []=>some x
 | j::p=>(ext x j).bind fun y=>run y p
variable {ext}
theorem qj {x:S}:∀ {p:List Int} {j:Int},run ext x (p++[j])=(run ext x p).bind fun y=>ext y j
 | [],j=>by
  show ((ext x j).bind fun y=>some y)=ext x j
  cases ext x j <;> rfl
 | a::p,j=>by
  simp only [List.cons_append,run]
  cases ext x a with
  | none=>rfl
  | some y=>exact qj
theorem IU {x:S}:∀ {p q:List Int},run ext x (p++q)=(run ext x p).bind fun y=>run ext y q
 | [],q=>rfl
 | a::p,q=>by
  simp only [List.cons_append,run]
  cases ext x a with
  | none=>rfl
  | some y=>exact IU
variable (ext)
structure Lv (x0:S) (m:Nat) (seen:S→Prop) (lv:List (S×List Int)):Prop where
 ok:∀ e ∈ lv,run ext x0 e.2=some e.1∧e.2.length=m
 sorted:lv.Pairwise (fun a b=>lx a.2 b.2)
 seen:∀ y,seen y↔∃ p,p.length≤m∧run ext x0 p=some y
 full:∀ p y,p.length=m→run ext x0 p=some y→(∃ q,q.length < m∧run ext x0 q=some y)∨∃ e ∈ lv,e.1=y∧lxe e.2 p
variable {ext}
structure wO (S:Type) where
 x:S
 p:List Int
 j:Int
 t:S
def wO.q (c:wO S):List Int:=c.p++[c.j]
structure Cq (seen:S→Prop) (done:List (wO S)) (nx:List (S×List Int×S)):Prop where
 from_:∀ z ∈ nx,¬ seen z.1∧∃ c ∈ done,z=(c.t,c.q,c.x)
 has:∀ c ∈ done,seen c.t∨∃ z ∈ nx,z.1=c.t∧lxe z.2.1 c.q
 sorted:nx.Pairwise (fun a b=>lx a.2.1 b.2.1)
 nd:nx.Pairwise (fun a b=>a.1≠b.1)
theorem Cq.nil (seen:S→Prop):Cq seen ([]:List (wO S)) []:=⟨by simp,by simp,by simp,by simp⟩
theorem Cq.old {seen:S→Prop} {done:List (wO S)} {nx:List (S×List Int×S)} (h:Cq seen done nx) {c:wO S} (hlt:∀ d ∈ done,lx d.q c.q) (hc:seen c.t∨∃ z ∈ nx,z.1=c.t):Cq seen (done++[c]) nx:=by
 refine ⟨fun z hz => ?_,fun d hd => ?_,h.sorted,h.nd⟩
 ·obtain ⟨h1,d,hd,e⟩:=h.from_ z hz;exact ⟨h1,d,by simp [hd],e⟩
 ·rcases List.mem_append.1 hd with hd | hd
  ·exact h.has d hd
  ·simp only [List.mem_singleton] at hd
   subst hd;rcases hc with hc | ⟨z,hz,e⟩
   ·exact .inl hc
   ·obtain ⟨_,c',hc',rfl⟩:=h.from_ z hz;exact .inr ⟨_,hz,e,.inr (hlt c' hc')⟩
theorem Cq.new {seen:S→Prop} {done:List (wO S)} {nx:List (S×List Int×S)} (h:Cq seen done nx) {c:wO S} (hlt:∀ d ∈ done,lx d.q c.q) (hc:¬ seen c.t) (hz:∀ z ∈ nx,z.1≠c.t):Cq seen (done++[c]) (nx++[(c.t,c.q,c.x)]):=by
 have hnd:(nx++[(c.t,c.q,c.x)]).Pairwise (fun a b=>a.1≠b.1):=by
  rw [List.pairwise_append]
  refine ⟨h.nd,by simp,fun a ha b hb => ?_⟩
  simp only [List.mem_singleton] at hb
  subst hb;exact hz a ha
 refine ⟨fun z hz => ?_,fun d hd => ?_,?_,hnd⟩
 ·rcases List.mem_append.1 hz with hz | hz
  ·obtain ⟨h1,d,hd,e⟩:=h.from_ z hz;exact ⟨h1,d,by simp [hd],e⟩
  ·simp only [List.mem_singleton] at hz
   subst hz;exact ⟨hc,c,by simp,rfl⟩
 ·rcases List.mem_append.1 hd with hd | hd
  ·rcases h.has d hd with h1 | ⟨z,hz,e⟩
   ·exact .inl h1
   ·exact .inr ⟨z,by simp [hz],e⟩
  ·simp only [List.mem_singleton] at hd
   subst hd;exact .inr ⟨(d.t,d.q,d.x),by simp,rfl,zT _⟩
 ·rw [List.pairwise_append]
  refine ⟨h.sorted,by simp,fun a ha b hb => ?_⟩
  simp only [List.mem_singleton] at hb
  subst hb;obtain ⟨_,d,hd,rfl⟩:=h.from_ a ha;exact hlt d hd
structure Did (ext:S→Int→Option S) (lv:List (S×List Int)) (a:Nat) (j:Int) (done:List (wO S)):Prop where
 is:∀ c ∈ done,∃ b:Nat,lv[b]? = some (c.x,c.p)∧ext c.x c.j=some c.t∧(b < a∨(b=a∧c.j < j))
 all:∀ (b:Nat) x p i t,lv[b]? = some (x,p)→ext x i=some t→(b < a∨(b=a∧i < j))→∃ c ∈ done,c.x=x∧c.p=p∧c.j=i∧c.t=t
theorem Did.start (ext:S→Int→Option S) (lv:List (S×List Int)) {lo:Int} (hlo:∀ x i t,ext x i=some t→lo≤i):Did ext lv 0 lo []:=by
 refine ⟨by simp,fun b x p i t _ ht h => ?_⟩
 have:=hlo x i t ht;rcases h with h | ⟨_,h⟩ <;> omega
theorem Did.skip {lv:List (S×List Int)} {a:Nat} {j:Int} {done:List (wO S)} (h:Did ext lv a j done) {x:S} {p:List Int} (hx:lv[a]? = some (x,p)) (hj:ext x j=none):Did ext lv a (j + 1) done:=by
 refine ⟨fun c hc => ?_,fun b y q i t hb ht hi => ?_⟩
 ·obtain ⟨b,h1,h2,h3⟩:=h.is c hc;exact ⟨b,h1,h2,h3.imp id fun h=>⟨h.1,by omega⟩⟩
 ·rcases hi with hi | ⟨rfl,hi⟩
  ·exact h.all b y q i t hb ht (.inl hi)
  ·rcases Int.lt_or_le i j with h1 | h1
   ·exact h.all b y q i t hb ht (.inr ⟨rfl,h1⟩)
   ·obtain rfl:i=j:=by omega
    rw [hx] at hb
    cases hb
    rw [hj] at ht
    cases ht
theorem Did.one {lv:List (S×List Int)} {a:Nat} {j:Int} {done:List (wO S)} (h:Did ext lv a j done) {x t:S} {p:List Int} (hx:lv[a]? = some (x,p)) (hj:ext x j=some t):Did ext lv a (j + 1) (done++[⟨x,p,j,t⟩]):=by
 refine ⟨fun c hc => ?_,fun b y q i u hb hu hi => ?_⟩
 ·rcases List.mem_append.1 hc with hc | hc
  ·obtain ⟨b,h1,h2,h3⟩:=h.is c hc;exact ⟨b,h1,h2,h3.imp id fun h=>⟨h.1,by omega⟩⟩
  ·simp only [List.mem_singleton] at hc
   subst hc;exact ⟨a,hx,hj,.inr ⟨rfl,by dsimp only; omega⟩⟩
 ·rcases hi with hi | ⟨rfl,hi⟩
  ·obtain ⟨c,hc,e⟩:=h.all b y q i u hb hu (.inl hi);exact ⟨c,by simp [hc],e⟩
  ·rcases Int.lt_or_le i j with h1 | h1
   ·obtain ⟨c,hc,e⟩:=h.all b y q i u hb hu (.inr ⟨rfl,h1⟩);exact ⟨c,by simp [hc],e⟩
   ·obtain rfl:i=j:=by omega
    rw [hx] at hb
    cases hb
    rw [hj] at hu
    exact ⟨⟨x,p,i,t⟩,by simp,rfl,rfl,rfl,Option.some.inj hu⟩
theorem Did.next {lv:List (S×List Int)} {a:Nat} {j lo:Int} {done:List (wO S)} (h:Did ext lv a j done) (hlo:∀ x i t,ext x i=some t→lo≤i) (hhi:∀ x i t,ext x i=some t→i < j):Did ext lv (a + 1) lo done:=by
 refine ⟨fun c hc => ?_,fun b y q i u hb hu hi => ?_⟩
 ·obtain ⟨b,h1,h2,h3⟩:=h.is c hc;exact ⟨b,h1,h2,.inl (by omega)⟩
 ·have h1:=hlo y i u hu;have h2:=hhi y i u hu;exact h.all b y q i u hb hu (by omega)
theorem Did.lt {x0:S} {m:Nat} {seen:S→Prop} {lv:List (S×List Int)} {a:Nat} {j:Int} {done:List (wO S)} (hL:Lv ext x0 m seen lv) (h:Did ext lv a j done) {x t:S} {p:List Int} (hx:lv[a]? = some (x,p)) :
  ∀ d ∈ done,lx d.q ((⟨x,p,j,t⟩:wO S).q):=by
 intro d hd;obtain ⟨b,h1,h2,h3⟩:=h.is d hd;have a1:=(hL.ok _ (List.mem_of_getElem? h1)).2;have a2:=(hL.ok _ (List.mem_of_getElem? hx)).2
 dsimp only at a1 a2
 show lx (d.p++[d.j]) (p++[j])
 rw [IR (a1.trans a2.symm)]
 rcases h3 with h3 | ⟨rfl,h3⟩
 ·left
  obtain ⟨hb,e1⟩:=List.getElem?_eq_some_iff.1 h1;obtain ⟨ha,e2⟩:=List.getElem?_eq_some_iff.1 hx;have:=List.pairwise_iff_getElem.1 hL.sorted b a hb ha h3
  rw [e1,e2] at this
  exact this
 ·right
  rw [hx] at h1
  cases h1;exact ⟨rfl,h3⟩
theorem Lv.next {x0:S} {m:Nat} {seen:S→Prop} {lv:List (S×List Int)} {done:List (wO S)} {nx:List (S×List Int×S)} {lo:Int} (h:Lv ext x0 m seen lv) (hd:Did ext lv lv.length lo done) (hn:Cq seen done nx) :
  Lv ext x0 (m + 1) (fun y=>seen y∨∃ z ∈ nx,z.1=y) (nx.map fun z=>(z.1,z.2.1)):=by
 have cand:∀ c ∈ done,run ext x0 c.q=some c.t∧c.q.length=m + 1:=by
  intro c hc;obtain ⟨b,h1,h2,_⟩:=hd.is c hc;obtain ⟨h3,h4⟩:=h.ok _ (List.mem_of_getElem? h1);refine ⟨?_,by simp only [wO.q,List.length_append,List.length_singleton]; dsimp only at h4; omega⟩
  dsimp only at h3
  rw [wO.q,qj,h3]
  exact h2
 have key:∀ p y,p.length=m + 1→run ext x0 p=some y→(∃ q,q.length≤m∧run ext x0 q=some y)∨∃ z ∈ nx,z.1=y∧lxe z.2.1 p:=by
  intro p y hp hy;obtain ⟨p',j,rfl⟩:∃ p' j,p=p'++[j]:=by
   have:p≠[]:=by intro e; rw [e] at hp; simp at hp
   exact ⟨_,_,(List.dropLast_concat_getLast this).symm⟩
  have hp':p'.length=m:=by simpa using hp
  rw [qj] at hy
  cases hx:run ext x0 p' with
  | none=>rw [hx] at hy; cases hy
  | some x =>
   rw [hx] at hy
   have hy:ext x j=some y:=hy;rcases h.full p' x hp' hx with ⟨q,hq,hqx⟩ | ⟨e,he,rfl,hle⟩
   ·left
    exact ⟨q++[j],by simp only [List.length_append,List.length_singleton]; omega,by rw [qj,hqx]; exact hy⟩
   ·obtain ⟨b,hb,eb⟩:=List.mem_iff_getElem.1 he;obtain ⟨c,hc,e1,e2,e3,e4⟩:=hd.all b e.1 e.2 j y (by rw [List.getElem?_eq_getElem hb,eb]) hy (.inl hb);have hcq:c.q=e.2++[j]:=by rw [wO.q,e2,e3]
    rcases hn.has c hc with h1 | ⟨z,hz,e5,h5⟩
    ·left
     rw [e4] at h1
     exact (h.seen y).1 h1
    ·right
     refine ⟨z,hz,e5.trans e4,Hu h5 ?_⟩
     rw [hcq]
     exact Qg ((h.ok e he).2.trans hp'.symm) hle
 refine ⟨?_,?_,fun y=>⟨?_,?_⟩,fun p y hp hy => ?_⟩
 ·intro e he;obtain ⟨z,hz,rfl⟩:=List.mem_map.1 he;obtain ⟨_,c,hc,rfl⟩:=hn.from_ z hz;exact cand c hc
 ·rw [List.pairwise_map]
  exact hn.sorted
 ·rintro (h1 | ⟨z,hz,rfl⟩)
  ·obtain ⟨p,hp,hr⟩:=(h.seen y).1 h1;exact ⟨p,by omega,hr⟩
  ·obtain ⟨_,c,hc,rfl⟩:=hn.from_ z hz;exact ⟨c.q,by rw [(cand c hc).2]; exact Nat.le_refl _,(cand c hc).1⟩
 ·rintro ⟨p,hp,hr⟩;rcases Nat.lt_or_ge m p.length with h1 | h1
  ·rcases key p y (by omega) hr with ⟨q,hq,hqr⟩ | ⟨z,hz,e,_⟩
   ·exact .inl ((h.seen y).2 ⟨q,hq,hqr⟩)
   ·exact .inr ⟨z,hz,e⟩
  ·exact .inl ((h.seen y).2 ⟨p,h1,hr⟩)
 ·rcases key p y hp hy with ⟨q,hq,hqr⟩ | ⟨z,hz,e,h5⟩
  ·exact .inl ⟨q,by omega,hqr⟩
  ·exact .inr ⟨(z.1,z.2.1),List.mem_map.2 ⟨z,hz,rfl⟩,e,h5⟩
theorem Lv.done {x0:S} {m:Nat} {seen:S→Prop} (h:Lv ext x0 m seen []):∀ {p:List Int} {y:S},run ext x0 p=some y→∃ q,q.length < m∧run ext x0 q=some y:=by
 have go:∀ (k:Nat) (p:List Int) (y:S),p.length=k→run ext x0 p=some y→∃ q,q.length < m∧run ext x0 q=some y:=by
  intro k
  induction k with
  | zero =>
   intro p y hp hy;rcases Nat.eq_zero_or_pos m with h0 | h0
   ·rcases h.full p y (by omega) hy with ⟨q,hq,_⟩ | ⟨e,he,_⟩
    ·omega
    ·simp at he
   ·exact ⟨p,by omega,hy⟩
  | succ k ih =>
   intro p y hp hy;obtain ⟨p',j,rfl⟩:∃ p' j,p=p'++[j]:=by
    have:p≠[]:=by intro e; rw [e] at hp; simp at hp
    exact ⟨_,_,(List.dropLast_concat_getLast this).symm⟩
   rw [qj] at hy
   cases hx:run ext x0 p' with
   | none=>rw [hx] at hy; cases hy
   | some x =>
    rw [hx] at hy
    have hy:ext x j=some y:=hy;obtain ⟨q,hq,hqx⟩:=ih p' x (by simpa using hp) hx;have hr:run ext x0 (q++[j])=some y:=by rw [qj,hqx]; exact hy
    rcases Nat.lt_or_ge (q.length + 1) m with h1 | h1
    ·exact ⟨q++[j],by simpa using h1,hr⟩
    ·rcases h.full (q++[j]) y (by simp only [List.length_append,List.length_singleton]; omega) hr with h2 | ⟨e,he,_⟩
     ·exact h2
     ·simp at he
 intro p y hr;exact go _ _ _ rfl hr
def Clo (ext:S→Int→Option S) (closes:S→Prop) (x:S) (p:List Int):Prop:=∃ y,run ext x p=some y∧closes y
structure zU (ext:S→Int→Option S) (closes:S→Prop) (x:S) (p:List Int):Prop where
 clo:Clo ext closes x p
 min:∀ q,Clo ext closes x q→p.length≤q.length∧(q.length=p.length→lxe p q)
theorem Nj {closes:S→Prop} {x:S}:Clo ext closes x []↔closes x:=⟨fun ⟨y,h,hc⟩=>by cases h; exact hc,fun h=>⟨x,rfl,h⟩⟩
theorem Qh {closes:S→Prop} {x:S} {j:Int} {p:List Int}:Clo ext closes x (j::p)↔∃ y,ext x j=some y∧Clo ext closes y p:=by
 constructor
 ·rintro ⟨z,h,hc⟩
  simp only [run] at h
  cases hy:ext x j with
  | none=>rw [hy] at h; cases h
  | some y=>rw [hy] at h; exact ⟨y,rfl,z,h,hc⟩
 ·rintro ⟨y,hy,z,h,hc⟩;exact ⟨z,by simp only [run,hy]; exact h,hc⟩
theorem Lv.first {closes:S→Prop} {x0:S} {m:Nat} {seen:S→Prop} {lv:List (S×List Int)} (h:Lv ext x0 m seen lv) (hno:∀ p,p.length < m → ¬ Clo ext closes x0 p) {a:Nat} {x:S} {p:List Int} (ha:lv[a]? = some (x,p)) (hc:closes x)
  (hb:∀ (b:Nat) y q,b < a→lv[b]? = some (y,q) → ¬ closes y):zU ext closes x0 p:=by
 obtain ⟨h1,h2⟩:=h.ok _ (List.mem_of_getElem? ha)
 dsimp only at h1 h2
 refine ⟨⟨x,h1,hc⟩,fun q hq => ?_⟩;have hlq:m≤q.length:=Nat.le_of_not_lt fun h=>hno q h hq;refine ⟨by omega,fun hl => ?_⟩
 obtain ⟨y,hy,hcy⟩:=hq;rcases h.full q y (by omega) hy with ⟨q',hq',hr⟩ | ⟨e,he,rfl,hle⟩
 ·exact (hno q' hq' ⟨y,hr,hcy⟩).elim
 ·obtain ⟨b,hbl,eb⟩:=List.mem_iff_getElem.1 he;refine Hu ?_ hle;rcases Nat.lt_trichotomy b a with h3 | rfl | h3
  ·exact (hb b e.1 e.2 h3 (by rw [List.getElem?_eq_getElem hbl,eb]) hcy).elim
  ·rw [List.getElem?_eq_getElem hbl,eb] at ha
   cases ha;exact zT _
  ·obtain ⟨hal,ea⟩:=List.getElem?_eq_some_iff.1 ha;have:=List.pairwise_iff_getElem.1 h.sorted a b hal hbl h3
   rw [ea,eb] at this
   exact .inr this
theorem Lv.noclo {closes:S→Prop} {x0:S} {m:Nat} {seen:S→Prop} {lv:List (S×List Int)} (h:Lv ext x0 m seen lv) (hno:∀ p,p.length < m → ¬ Clo ext closes x0 p) (hb:∀ (b:Nat) y q,lv[b]? = some (y,q) → ¬ closes y) :
  ∀ p,p.length < m + 1 → ¬ Clo ext closes x0 p:=by
 rintro p hp ⟨y,hy,hc⟩;rcases Nat.lt_or_ge p.length m with h1 | h1
 ·exact hno p h1 ⟨y,hy,hc⟩
 ·rcases h.full p y (by omega) hy with ⟨q,hq,hr⟩ | ⟨e,he,rfl,_⟩
  ·exact hno q hq ⟨y,hr,hc⟩
  ·obtain ⟨b,hbl,eb⟩:=List.mem_iff_getElem.1 he;exact hb b e.1 e.2 (by rw [List.getElem?_eq_getElem hbl,eb]) hc
theorem Lv.never {closes:S→Prop} {x0:S} {m:Nat} {seen:S→Prop} (h:Lv ext x0 m seen []) (hno:∀ p,p.length < m → ¬ Clo ext closes x0 p) (p:List Int):¬ Clo ext closes x0 p:=by
 rintro ⟨y,hy,hc⟩;obtain ⟨q,hq,hr⟩:=h.done hy;exact hno q hq ⟨y,hr,hc⟩
end
end Go.Proofs.YtfpeabnehpclnaaGreatT
namespace Go.Proofs.YtfpeabnehpclnaaGreatT
open Go Go.Proofs Go.Proofs.YtfpeabnehpclnaaGreatE
set_option linter.unusedVariables false
set_option linter.unusedSimpArgs false
theorem xW:∀ (k:Nat) (l:List Nat),l.Nodup→(∀ v ∈ l,v < k)→l.length≤k
 | 0,[],_,_=>Nat.le_refl _
 | 0,x::l,_,h=>absurd (h x (by simp)) (Nat.not_lt_zero _)
 | k + 1,l,hn,h=>by
  have h1:=xW k (l.filter (· ≠ k)) (hn.filter _) (fun v hv=>by
   have:=List.mem_filter.1 hv;have h2:=h v this.1;have h3:v≠k:=by simpa using this.2
   omega)
  have h2:l.length≤(l.filter (· ≠ k)).length + 1:=by
   clear h1 h
   induction l with
   | nil=>simp
   | cons a l ih =>
    rw [List.nodup_cons] at hn
    by_cases e:a=k
    ·subst e;have:l.filter (· ≠ a)=l:=by
      rw [List.filter_eq_self]
      intro b hb;have:b≠a:=fun e=>hn.1 (e ▸ hb)
      simpa using this
     rw [List.filter_cons_of_neg (by simp),this]
     simp
    ·rw [List.filter_cons_of_pos (by simpa using e)]
     have:=ih hn.2
     simp only [List.length_cons]
     omega
  omega
structure Hw (net:dF) (n:Nat) (t l:Int→Int→Bool):Prop where
 N:net.g.N=n
 le:n≤64
 len:net.links.length=n
 row:∀ i:Int,0≤i→i < n→(idx net.links i).length=n
 tg:∀ i j:Int,0≤i→i < n→0≤j→j < n→((idx (idx net.links i) j).tight == 0) = !t i j
 ls:∀ i j:Int,0≤i→i < n→0≤j→j < n→((idx (idx net.links i) j).loose == 0) = !l i j
 tpos:∀ i j:Int,0≤i→i < n→0≤j→j < n→0≤(idx (idx net.links i) j).tight
def stp (t l:Int→Int→Bool) (s n:Int) (x:af) (j:Int):Option af :=
 if s≤j∧j < n∧(t x.node j=true∨(l x.node j=true∧x.last_=false)) then some ⟨j,!t x.node j,x.first_⟩ else none
theorem oK {t l:Int→Int→Bool} {s n:Int} {x y:af} {j:Int}:stp t l s n x j=some y↔(s≤j∧j < n∧(t x.node j=true∨(l x.node j=true∧x.last_=false)))∧y=⟨j,!t x.node j,x.first_⟩:=by
 unfold stp
 split
 ·rename_i h
  exact ⟨fun e=>⟨h,(Option.some.inj e).symm⟩,fun e=>by rw [e.2]⟩
 ·rename_i h
  exact ⟨fun e=>(nomatch e),fun e=>absurd e.1 h⟩
theorem FK {σ:Type} {Y:σ→af→Option (Bool×σ)} {net:dF} {n:Nat} {t l:Int→Int→Bool} (hN:Hw net n t l) {x:af} (hx:0≤x.node∧x.node < n) {s:Int} (hs:0≤s∧s≤n) (I:Int→σ→Prop) {s0:σ} (h0:I s s0) (Q:σ→Prop)
  (hno:∀ j u,s≤j→j < n→stp t l s n x j=none→I j u→I (j + 1) u)
  (hyes:∀ j u y,s≤j→j < n→stp t l s n x j=some y→I j u→Tri (Y u y) (fun r=>(r.1=true→I (j + 1) r.2)∧(r.1=false→Q r.2)))
  (hend:∀ u,I n u→Q u):Tri (aY Y s net x s0) Q:=by
 unfold aY;refine oM (fun q:Int×σ=>s≤q.1∧q.1≤n∧I q.1 q.2) (fun q=>(n - q.1).toNat) ⟨Int.le_refl _,hs.2,h0⟩ ?_;rintro ⟨j,u⟩ ⟨h1,h2,hI⟩
 dsimp only at h1 h2 hI
 have hle:=hN.le;have hnl:=hN.len;unfold oz
 dsimp only
 rw [hN.N]
 refine eP (fun hj => ?_) (fun hj => ?_)
 ·have hj:j < n:=by simpa using hj
  have hr:=hN.row x.node hx.1 hx.2;have hw:w64 (j + 1)=j + 1:=bA (by omega) (by omega);refine ah ⟨hx.1,by rw [hnl]; exact hx.2⟩ (ah ⟨by omega,by rw [hr]; exact hj⟩ ?_)
  rw [hN.tg x.node j hx.1 hx.2 (by omega) hj,hN.ls x.node j hx.1 hx.2 (by omega) hj]
  have hskip:stp t l s n x j=none→Tri (kQ j u:Option ((Int×σ) ⊕ σ)) (Rnd (fun q:Int×σ=>s≤q.1∧q.1≤n∧I q.1 q.2) (fun q=>(n - q.1).toNat) Q (j,u)):=by
   intro h;refine ag ?_
   rw [hw]
   exact ⟨⟨by dsimp only; omega,by dsimp only; omega,hno j u h1 hj h hI⟩,by dsimp only; omega⟩
  have hgo:∀ y,stp t l s n x j=some y→Tri (fD Y net x j u false) (Rnd (fun q:Int×σ=>s≤q.1∧q.1≤n∧I q.1 q.2) (fun q=>(n - q.1).toNat) Q (j,u)):=by
   intro y hy;have hy':=(oK.1 hy).2;unfold fD
   rw [cond_false,hN.tg x.node j hx.1 hx.2 (by omega) hj,← hy']
   refine dN (hyes j u y h1 hj hy hI) ?_;rintro ⟨b,u'⟩ ⟨h3,h4⟩;cases b with
   | true =>
    refine ag ?_
    rw [hw]
    exact ⟨⟨by dsimp only; omega,by dsimp only; omega,h3 rfl⟩,by dsimp only; omega⟩
   | false=>exact ax (ag (h4 rfl))
  cases ht:t x.node j with
  | true =>
   simp only [Bool.not_true,cond_false]
   exact hgo _ (oK.2 ⟨⟨h1,hj,.inl ht⟩,rfl⟩)
  | false =>
   simp only [Bool.not_false,cond_true]
   cases hl:l x.node j with
   | false =>
    simp only [Bool.not_false,cond_true]
    unfold fD;refine hskip ?_;unfold stp
    rw [if_neg (by simp [ht,hl])]
   | true =>
    simp only [Bool.not_true,cond_false]
    cases hb:x.last_ with
    | true =>
     unfold fD;refine hskip ?_;unfold stp
     rw [if_neg (by simp [ht,hb])]
    | false=>exact hgo _ (oK.2 ⟨⟨h1,hj,.inr ⟨hl,hb⟩⟩,rfl⟩)
 ·have:j=n:=by
   have:¬ j < n:=by simpa using hj
   omega
  subst this;exact ax (ag (hend u hI))
inductive Tr (m:List (af×af)):af→List Int→Prop where
 | root {x:af} (h:x.node < 0):Tr m x []
 | back {x:af} {q:List Int} (h0:0≤x.node) (h:iR m x=true) (ht:Tr m (mat m x) q):Tr m x (q++[x.node])
theorem Tr.put {m:List (af×af)} {t v:af} (hn:iR m t=false) {x:af} {q:List Int} (h:Tr m x q):Tr (fC m t v) x q:=by
 induction h with
 | root h=>exact .root h
 | back h0 h ht ih =>
  rename_i x q
  refine .back h0 (oO.2 (.inr h)) ?_
  rw [qA,if_neg (fun e=>by rw [e,hn] at h; cases h)]
  exact ih
theorem LK {m:List (af×af)} {s:Int} {x:af} {p:List Int} (h:Tr m x p) (hl:p.length≤1000):iV m x s=some (s::p,false):=by
 unfold iV;have go:∀ (x:af) (p:List Int),Tr m x p→∀ acc:List Int,p.length + acc.length≤1000→iter (lh m s) (x.node,x.last_,x.first_,acc)=some (s::(p++acc),false):=by
  intro x p h
  induction h with
  | root h =>
   rename_i x
   intro acc ha;have e:lh m s (x.node,x.last_,x.first_,acc)=some (.inr (s::([]++acc),false)):=by
    unfold lh
    simp only [show decide (x.node ≥ 0)=false by simpa using h,cond_false]
    rw [iQ _ (by simp at ha; omega)]
    rfl
   rw [ul,e]
  | back h0 h ht ih =>
   rename_i x q
   intro acc ha;have e:lh m s (x.node,x.last_,x.first_,acc)=some (.inl ((mat m x).node,(mat m x).last_,(mat m x).first_,[x.node]++acc)):=by
    unfold lh
    simp only [show decide (x.node ≥ 0)=true by simpa using h0,cond_true]
    rw [iQ _ (by simp at ha; omega)]
   rw [ul,e]
   refine (ih ([x.node]++acc) (by simp at ha ⊢; omega)).trans ?_
   simp
 have:=go x p h [] (by simpa using hl)
 simpa using this
def root:af:=⟨-1,false,false⟩
def ext (t l:Int→Int→Bool) (s n:Int) (x:af) (j:Int):Option af :=
 if x.node < 0 then (stp t l s n ⟨s,false,false⟩ j).map (fun y=>⟨y.node,y.last_,y.last_⟩) else stp t l s n x j
def clo (t l:Int→Int→Bool) (s:Int) (x:af):Prop :=
 if x.node < 0 then t s s=true else t x.node s=true∨(l x.node s=true∧x.last_=false∧x.first_=false)
theorem Hy (x:af) (s:Int):vG x s=some (decide (x.node=s) && !(x.last_ && x.first_)):=by
 unfold vG
 by_cases h:x.node=s
 ·rw [show (x.node == s)=true by simpa using h]
  cases x.last_ <;> cases x.first_ <;> simp [h]
 ·rw [show (x.node == s)=false by simpa using h]
  simp [h]
structure Knows (m:List (af×af)) (seen:af→Prop):Prop where
 has:∀ y:af,0≤y.node→(iR m y=true↔seen y)
structure At (t l:Int→Int→Bool) (s:Int) (n k:Nat) (m:List (af×af)) (lv:List (af×List Int)) (seen:af→Prop):Prop where
 lev:Lv (ext t l s n) root k seen lv
 no:∀ p,p.length < k → ¬ Clo (ext t l s n) (clo t l s) root p
 knows:Knows m seen
 tr:∀ e ∈ lv,Tr m e.1 e.2
 node:∀ e ∈ lv,0≤e.1.node∧e.1.node < n
variable {t l:Int→Int→Bool} {s:Int} {n:Nat}
theorem Bt {x:af} {i:Int} {y:af} (h:ext t l s n x i=some y):s≤i∧i < n∧y.node=i:=by
 unfold ext at h
 split at h
 ·cases hq:stp t l s n ⟨s,false,false⟩ i with
  | none=>rw [hq] at h; cases h
  | some z =>
   rw [hq] at h
   obtain ⟨h1,h2⟩:=oK.1 hq;cases h
   rw [h2]
   exact ⟨h1.1,h1.2.1,rfl⟩
 ·obtain ⟨h1,h2⟩:=oK.1 h
  rw [h2]
  exact ⟨h1.1,h1.2.1,rfl⟩
def code (x:af):Nat:=x.node.toNat * 4 + (if x.last_ then 2 else 0) + (if x.first_ then 1 else 0)
theorem code_inj {x y:af} (hx:0≤x.node) (hy:0≤y.node) (h:code x=code y):x=y:=by
 unfold code at h;obtain ⟨a,b,c⟩:=x;obtain ⟨d,e,f⟩:=y
 dsimp only at hx hy h
 cases b <;> cases c <;> cases e <;> cases f <;> simp at h ⊢ <;> omega
theorem Qi {lv:List (af×List Int)} {a:Nat} {j:Int} {done:List (wO af)} {seen:af→Prop} {nx:List (af×List Int×af)} (hs:0≤s) (hd:Did (ext t l s n) lv a j done) (hn:Cq seen done nx):nx.length≤4 * n:=by
 have hnode:∀ z ∈ nx,0≤z.1.node∧z.1.node < n:=by
  intro z hz;obtain ⟨_,c,hc,rfl⟩:=hn.from_ z hz;obtain ⟨b,_,h2,_⟩:=hd.is c hc;obtain ⟨h3,h4,h5⟩:=Bt h2
  dsimp only
  omega
 have:=xW (4 * n) (nx.map fun z=>code z.1) ?_ ?_
 ·simpa using this
 ·unfold List.Nodup
  rw [List.pairwise_map]
  exact hn.nd.imp_of_mem fun {a b} ha hb h e=>h (code_inj (hnode a ha).1 (hnode b hb).1 e)
 ·intro v hv;obtain ⟨z,hz,rfl⟩:=List.mem_map.1 hv;have:=hnode z hz;unfold code
  split <;> split <;> omega
end Go.Proofs.YtfpeabnehpclnaaGreatT
namespace Go.Proofs.YtfpeabnehpclnaaGreatT
open Go Go.Proofs Go.Proofs.YtfpeabnehpclnaaGreatE
set_option linter.unusedVariables false
set_option linter.unusedSimpArgs false
variable {t l:Int→Int→Bool} {s:Int} {n k:Nat}
def sH (t l:Int→Int→Bool) (s:Int) (n:Nat) (seen:af→Prop) (lv:List (af×List Int)) (a:Nat) (j:Int) (m:List (af×af)) (nl:List af):Prop :=
 ∃ done nx,Did (ext t l s n) lv a j done∧Cq seen done nx∧nl=nx.map (·.1)∧Knows m (fun y=>seen y∨∃ z ∈ nx,z.1=y)∧(∀ e ∈ lv,Tr m e.1 e.2)∧(∀ z ∈ nx,Tr m z.1 z.2.1∧0≤z.1.node∧z.1.node < n)
section
variable {seen:af→Prop} {lv:List (af×List Int)} {a:Nat} {j:Int} {m:List (af×af)} {nl:List af} {x y:af} {p:List Int}
theorem sH.skip (h:sH t l s n seen lv a j m nl) (hx:lv[a]? = some (x,p)) (hj:ext t l s n x j=none):sH t l s n seen lv a (j + 1) m nl:=by
 obtain ⟨done,nx,h1,h2,h3⟩:=h;exact ⟨done,nx,h1.skip hx hj,h2,h3⟩
theorem sH.old {z0:af} (hL:Lv (ext t l s n) z0 k seen lv) (h:sH t l s n seen lv a j m nl) (hs:0≤s) (hx:lv[a]? = some (x,p)) (hj:ext t l s n x j=some y) (hm:iR m y=true):sH t l s n seen lv a (j + 1) m nl:=by
 obtain ⟨done,nx,h1,h2,h3,h4,h5⟩:=h;have hy:=Bt hj;exact ⟨done++[⟨x,p,j,y⟩],nx,h1.one hx hj,h2.old (h1.lt hL hx) ((h4.has y (by omega)).1 hm),h3,h4,h5⟩
theorem sH.new {z0:af} (hL:Lv (ext t l s n) z0 k seen lv) (h:sH t l s n seen lv a j m nl) (hs:0≤s) (hx:lv[a]? = some (x,p)) (hj:ext t l s n x j=some y) (hm:iR m y=false):sH t l s n seen lv a (j + 1) (fC m y x) (nl++[y]):=by
 obtain ⟨done,nx,h1,h2,h3,h4,h5,h6⟩:=h;have hy:=Bt hj;have hn:¬ (seen y∨∃ z ∈ nx,z.1=y):=fun h=>by rw [(h4.has y (by omega)).2 h] at hm; cases hm
 have hq:(⟨x,p,j,y⟩:wO af).q=p++[y.node]:=by show p++[j]=_; rw [hy.2.2]
 have htr:Tr (fC m y x) y (p++[y.node]) := .back (by omega) (oO.2 (.inl rfl)) (by rw [qA,if_pos rfl]; exact (h5 _ (List.mem_of_getElem? hx)).put hm);refine ⟨done++[⟨x,p,j,y⟩],nx++[(y,(⟨x,p,j,y⟩:wO af).q,x)],h1.one hx hj,h2.new (h1.lt hL hx) (fun h=>hn (.inl h)) (fun z hz e=>hn (.inr ⟨z,hz,e⟩)),by simp [h3],⟨fun u hu => ?_⟩,fun e he=>(h5 e he).put hm,fun z hz => ?_⟩
 ·rw [oO,h4.has u hu]
  constructor
  ·rintro (rfl | h | ⟨z,hz,e⟩)
   ·exact .inr ⟨_,List.mem_append_right _ (List.mem_singleton.2 rfl),rfl⟩
   ·exact .inl h
   ·exact .inr ⟨z,List.mem_append_left _ hz,e⟩
  ·rintro (h | ⟨z,hz,e⟩)
   ·exact .inr (.inl h)
   ·rcases List.mem_append.1 hz with hz | hz
    ·exact .inr (.inr ⟨z,hz,e⟩)
    ·simp only [List.mem_singleton] at hz
     subst hz;exact .inl e.symm
 ·rcases List.mem_append.1 hz with hz | hz
  ·exact ⟨(h6 z hz).1.put hm,(h6 z hz).2⟩
  ·simp only [List.mem_singleton] at hz
   subst hz;refine ⟨?_,by dsimp only; omega,by dsimp only; omega⟩
   rw [hq]
   exact htr
theorem sH.len (h:sH t l s n seen lv a j m nl) (hs:0≤s):nl.length≤4 * n:=by
 obtain ⟨done,nx,h1,h2,h3,_⟩:=h
 rw [h3,List.length_map]
 exact Qi hs h1 h2
theorem sH.next (h:sH t l s n seen lv a n m nl):sH t l s n seen lv (a + 1) s m nl:=by
 obtain ⟨done,nx,h1,h3⟩:=h;exact ⟨done,nx,h1.next (fun x i t h=>(Bt h).1) (fun x i t h=>(Bt h).2.1),h3⟩
theorem sH.start (hk:Knows m seen) (ht:∀ e ∈ lv,Tr m e.1 e.2):sH t l s n seen lv 0 s m [] :=
 ⟨[],[],Did.start _ _ (fun x i t h=>(Bt h).1),Cq.nil _,rfl,⟨fun y hy=>by rw [hk.has y hy]; simp⟩,ht,by simp⟩
theorem sH.level (hA:Lv (ext t l s n) root k seen lv) (hno:∀ p,p.length < k → ¬ Clo (ext t l s n) (clo t l s) root p) (h:sH t l s n seen lv lv.length s m nl) (hb:∀ (b:Nat) y q,lv[b]? = some (y,q) → ¬ clo t l s y) :
  ∃ lv' seen',nl=lv'.map (·.1)∧At t l s n (k + 1) m lv' seen':=by
 obtain ⟨done,nx,h1,h2,h3,h4,h5,h6⟩:=h;refine ⟨nx.map fun z=>(z.1,z.2.1),_,by rw [h3,List.map_map]; rfl,hA.next h1 h2,hA.noclo hno hb,h4,fun e he => ?_,fun e he => ?_⟩
 ·obtain ⟨z,hz,rfl⟩:=List.mem_map.1 he;exact (h6 z hz).1
 ·obtain ⟨z,hz,rfl⟩:=List.mem_map.1 he;exact (h6 z hz).2
end
theorem lv0:Lv (ext t l s n) root 0 (· = root) [(root,[])]:=by
 refine ⟨?_,by simp,fun y=>⟨?_,?_⟩,fun p y hp hy => ?_⟩
 ·intro e he
  simp only [List.mem_singleton] at he
  subst he;exact ⟨rfl,rfl⟩
 ·rintro rfl;exact ⟨[],Nat.le_refl _,rfl⟩
 ·rintro ⟨p,hp,hr⟩;have:p=[]:=List.eq_nil_of_length_eq_zero (by omega);subst this;exact (Option.some.inj hr).symm
 ·right
  have:p=[]:=List.eq_nil_of_length_eq_zero hp;subst this;exact ⟨_,List.mem_singleton.2 rfl,Option.some.inj hy,zT _⟩
theorem JZ {net:dF} (hN:Hw net n t l) (hs:0≤s∧s < n) :
  Tri (aY (kR s) s net ⟨s,false,false⟩ (.inl ([],[],true))) (fun u=>match u with
   | .inl (m,nl,_)=>sH t l s n (· = root) [(root,[])] 0 n m nl ∧ ¬ clo t l s root
   | .inr _=>clo t l s root):=by
 have hclo:clo t l s root↔t s s=true:=Iff.rfl;have hle:=hN.le;refine FK hN (x:=⟨s,false,false⟩) hs ⟨hs.1,by omega⟩ (fun j u=>∃ m nl b,u = .inl (m,nl,b)∧sH t l s n (· = root) [(root,[])] 0 j m nl∧(s < j → ¬ t s s=true)) ?_ _ ?_ ?_ ?_
 ·refine ⟨_,_,_,rfl,sH.start ⟨fun y hy => ?_⟩ (fun e he => ?_),fun h=>by omega⟩
  ·rw [FV]
   constructor
   ·intro h; cases h
   ·rintro rfl; simp [root] at hy
  ·simp only [List.mem_singleton] at he
   subst he;exact .root (by decide)
 ·rintro j u h1 h2 h3 ⟨m,nl,b,rfl,h4,h5⟩;refine ⟨m,nl,b,rfl,h4.skip (x:=root) (p:=[]) rfl ?_,fun _ => ?_⟩
  ·show (stp t l s n ⟨s,false,false⟩ j).map _=none
   rw [h3]
   rfl
  ·by_cases e:s < j
   ·exact h5 e
   ·obtain rfl:s=j:=by omega
    intro ht;unfold stp at h3
    rw [if_pos ⟨h1,h2,.inl ht⟩] at h3
    cases h3
 ·rintro j u y h1 h2 h3 ⟨m,nl,b,rfl,h4,h5⟩;obtain ⟨h6,h7⟩:=oK.1 h3;have hj:y.node=j:=by rw [h7]
  have hl:y.last_ = !t s j:=by rw [h7]
  have hx:ext t l s n root j=some ⟨y.node,y.last_,y.last_⟩:=by
   show (stp t l s n ⟨s,false,false⟩ j).map _=_
   rw [h3]
   rfl
  have hlen:=h4.len hs.1;unfold kR
  dsimp only
  rw [Hy]
  refine bX ?_
  by_cases hh:j=s∧t s s=true
  ·rw [show (decide ((⟨y.node,y.last_,y.last_⟩:af).node=s) && !((⟨y.node,y.last_,y.last_⟩:af).last_ && (⟨y.node,y.last_,y.last_⟩:af).first_))=true by dsimp only; rw [hj,hl,hh.1,hh.2]; simp,cond_true]
   exact ag ⟨fun h=>(nomatch h),fun _=>hh.2⟩
  ·rw [show (decide ((⟨y.node,y.last_,y.last_⟩:af).node=s) && !((⟨y.node,y.last_,y.last_⟩:af).last_ && (⟨y.node,y.last_,y.last_⟩:af).first_))=false by
    dsimp only
    rw [hj,hl]
    by_cases e:j=s
    ·subst e;have:t j j=false:=by
      cases h:t j j with
      | true=>exact absurd ⟨rfl,h⟩ hh
      | false=>rfl
     simp [this]
    ·simp [e],cond_false]
   have hno:s < j + 1 → ¬ t s s=true:=fun _=>by
    by_cases e:s < j
    ·exact h5 e
    ·obtain rfl:s=j:=by omega
     exact fun h=>hh ⟨rfl,h⟩
   cases hm:iR m ⟨y.node,y.last_,y.last_⟩ with
   | true =>
    refine ag ⟨fun _=>⟨m,nl,b,rfl,h4.old lv0 hs.1 (x:=root) (p:=[]) rfl hx hm,hno⟩,fun h=>by cases h⟩
   | false =>
    refine ah (by omega) (ag ⟨fun _=>⟨_,_,false,rfl,?_,hno⟩,fun h=>by cases h⟩);exact h4.new lv0 hs.1 (x:=root) (p:=[]) rfl hx hm
 ·rintro u ⟨m,nl,b,rfl,h4,h5⟩;exact ⟨h4,fun h=>h5 hs.2 (hclo.1 h)⟩
theorem Oo {net:dF} (hN:Hw net n t l) (hs:0≤s∧s < n) {seen:af→Prop} {lv:List (af×List Int)} (hL:Lv (ext t l s n) root k seen lv) {a:Nat} {x:af} {p:List Int} (hx:lv[a]? = some (x,p)) (hxn:0≤x.node∧x.node < n) (hp:p.length≤1000)
  {m0:List (af×af)} {a1:List af} {b0:Bool} (h0:sH t l s n seen lv a s m0 a1) (hi:idx (lv.map (·.1)) (a:Int)=x) :
  Tri (aY (kS s (lv.map (·.1)) (a:Int)) s net x (.inl (m0,a1,b0))) (fun u=>match u with
   | .inl (m,nl,_)=>sH t l s n seen lv a n m nl ∧ ¬ clo t l s x
   | .inr r=>clo t l s x∧r=(s::p,false)):=by
 have hnx:¬ x.node < 0:=by omega
 have hex:∀ j,ext t l s n x j=stp t l s n x j:=fun j=>by unfold ext; rw [if_neg hnx]
 have hclo:clo t l s x↔(t x.node s=true∨(l x.node s=true∧x.last_=false∧x.first_=false)):=by unfold clo; rw [if_neg hnx]
 have hle:=hN.le;refine FK hN hxn ⟨hs.1,by omega⟩ (fun j u=>∃ m nl b,u = .inl (m,nl,b)∧sH t l s n seen lv a j m nl∧(s < j → ¬ clo t l s x)) ?_ _ ?_ ?_ ?_
 ·exact ⟨_,_,_,rfl,h0,fun h=>by omega⟩
 ·rintro j u h1 h2 h3 ⟨m,nl,b,rfl,h4,h5⟩;refine ⟨m,nl,b,rfl,h4.skip hx ((hex j).trans h3),fun _ => ?_⟩
  by_cases e:s < j
  ·exact h5 e
  ·obtain rfl:s=j:=by omega
   rw [hclo]
   intro hc;unfold stp at h3
   rw [if_pos ⟨h1,h2,hc.imp id fun h=>⟨h.1,h.2.1⟩⟩] at h3
   cases h3
 ·rintro j u y h1 h2 h3 ⟨m,nl,b,rfl,h4,h5⟩;obtain ⟨h6,h7⟩:=oK.1 h3;have hj:y.node=j:=by rw [h7]
  have hl:y.last_ = !t x.node j:=by rw [h7]
  have hf:y.first_=x.first_:=by rw [h7]
  have hlen:=h4.len hs.1;unfold kS
  dsimp only
  rw [Hy,hj,hl,hf]
  refine bX ?_
  by_cases hh:j=s∧(t x.node s=true∨x.first_=false)
  ·rw [show (decide (j=s) && !(!t x.node j && x.first_))=true by
    obtain ⟨rfl,h⟩:=hh;rcases h with h | h <;> simp [h],cond_true]
   have hc:clo t l s x:=by
    obtain ⟨rfl,h⟩:=hh
    rw [hclo]
    rcases h6.2.2 with h8 | h8
    ·exact .inl h8
    ·rcases h with h | h
     ·exact .inl h
     ·exact .inr ⟨h8.1,h8.2,h⟩
   obtain ⟨_,_,_,_,_,_,h9,_⟩:=id h4
   rw [hi,LK (h9 _ (List.mem_of_getElem? hx)) hp]
   refine bX (ag ⟨fun h=>(nomatch h),fun _=>⟨hc,rfl⟩⟩)
  ·rw [show (decide (j=s) && !(!t x.node j && x.first_))=false by
    by_cases e:j=s
    ·subst e;have h8:t x.node j=false:=by
      cases h:t x.node j with
      | true=>exact absurd ⟨rfl,.inl h⟩ hh
      | false=>rfl
     have h9:x.first_=true:=by
      cases h:x.first_ with
      | false=>exact absurd ⟨rfl,.inr h⟩ hh
      | true=>rfl
     simp [h8,h9]
    ·simp [e],cond_false]
   have hno:s < j + 1 → ¬ clo t l s x:=fun _=>by
    by_cases e:s < j
    ·exact h5 e
    ·obtain rfl:s=j:=by omega
     rw [hclo]
     rintro (h | h)
     ·exact hh ⟨rfl,.inl h⟩
     ·exact hh ⟨rfl,.inr h.2.2⟩
   rw [show (⟨j,!t x.node j,x.first_⟩:af)=y from h7.symm] at *
   cases hm:iR m y with
   | true =>
    refine ag ⟨fun _=>⟨m,nl,b,rfl,h4.old hL hs.1 hx ((hex j).trans h3) hm,hno⟩,fun h=>by cases h⟩
   | false =>
    rw [hi]
    refine ah (by omega) (ag ⟨fun _=>⟨_,_,false,rfl,h4.new hL hs.1 hx ((hex j).trans h3) hm,hno⟩,fun h=>by cases h⟩)
 ·rintro u ⟨m,nl,b,rfl,h4,h5⟩;exact ⟨h4,h5 hs.2⟩
def Hz (t l:Int→Int→Bool) (s:Int) (n:Nat) (limit:Int) (r:List Int×Bool):Prop :=
 (r=([],true)∧∀ p,Clo (ext t l s n) (clo t l s) root p→limit≤p.length + 1)∨∃ p,r=(s::p,false)∧zU (ext t l s n) (clo t l s) root p∧(p=[]∨(p.length:Int) + 1 < limit)
theorem LM {net:dF} (hN:Hw net n t l) (hs:0≤s∧s < n) {limit:Int} (hl:2≤limit∧limit≤100):Tri (aJ net s limit) (Hz t l s n limit):=by
 have hle:=hN.le;unfold aJ kF;refine bX (dN (JZ hN hs) ?_);rintro (⟨m,nl,b⟩ | u) hu
 ·obtain ⟨h1,h2⟩:=hu;obtain ⟨lv,seen,hnl,hA⟩:=sH.level lv0 (fun p h=>absurd h (Nat.not_lt_zero _)) h1.next (fun b y q hb=>by
   cases b with
   | zero=>cases hb; exact h2
   | succ b=>simp at hb)
  unfold rQ
  dsimp only
  refine oM (fun q:List (af×af)×List af×Bool×Int=>∃ (k:Nat) (lv:List (af×List Int)) (seen:af→Prop),q.2.1=lv.map (·.1)∧At t l s n (k + 1) q.1 lv seen∧q.2.2.2=(k:Int) + 2∧(k:Int) + 2≤limit) (fun q=>(limit - q.2.2.2).toNat) ⟨0,lv,seen,hnl,hA,rfl,by omega⟩ ?_
  rintro ⟨m,level,b,size⟩ ⟨k,lv,seen,e1,hA,e2,e3⟩
  dsimp only at e1 e2 hA
  subst e1 e2;unfold rP
  dsimp only
  have hnone:limit≤(k:Int) + 2∨lv=[]→Tri (out (some (([]:List Int),true)):Option ((List (af×af)×List af×Bool×Int) ⊕ (List Int×Bool))) (Rnd (fun q:List (af×af)×List af×Bool×Int=>∃ (k:Nat) (lv:List (af×List Int)) (seen:af→Prop),q.2.1=lv.map (·.1)∧At t l s n (k + 1) q.1 lv seen∧q.2.2.2=(k:Int) + 2∧(k:Int) + 2≤limit) (fun q=>(limit - q.2.2.2).toNat) (Hz t l s n limit) (m,lv.map (·.1),b,(k:Int) + 2)):=by
   intro h;refine ax (ag (.inl ⟨rfl,fun p hp => ?_⟩));rcases h with h | h
   ·have:¬ p.length < k + 1:=fun h=>hA.no p h hp
    omega
   ·have h3:=hA.lev
    rw [h] at h3
    exact (h3.never hA.no p hp).elim
  refine eP (fun hc => ?_) (fun hc => ?_)
  ·have hc:(k:Int) + 2 < limit:=by simpa using hc
   unfold kT;refine eP (fun hq => ?_) (fun hq=>hnone (.inr ?_))
   ·refine oM (fun q:List (af×af)×List af×Bool×Int=>∃ a:Nat,q.2.2.2=(a:Int)∧a≤lv.length∧sH t l s n seen lv a s q.1 q.2.1∧∀ (b:Nat) y p,b < a→lv[b]? = some (y,p) → ¬ clo t l s y) (fun q=>lv.length - q.2.2.2.toNat) ⟨0,rfl,Nat.zero_le _,sH.start hA.knows hA.tr,fun b y p hb=>absurd hb (Nat.not_lt_zero _)⟩ ?_;rintro ⟨m',nl',b',a'⟩ ⟨a,e1,ha,hS,hcl⟩
    dsimp only at e1 hS
    subst e1;unfold rO
    dsimp only
    refine eP (fun hk => ?_) (fun hk => ?_)
    ·have hk:a < lv.length:=by simpa using hk
     refine ah (by simp; omega) ?_;unfold kF;refine bX ?_;have hx:lv[a]? = some (lv[a].1,lv[a].2):=List.getElem?_eq_getElem hk;have hi:idx (lv.map (·.1)) (a:Int)=lv[a].1:=by
      rw [lQ,List.getD_eq_getElem?_getD,List.getElem?_map,List.getElem?_eq_getElem hk]
      rfl
     rw [hi]
     refine dN (Oo hN hs hA.lev hx (hA.node _ (List.mem_of_getElem? hx)) ?_ hS hi) ?_
     ·have:=(hA.lev.ok _ (List.mem_of_getElem? hx)).2
      dsimp only at this
      omega
     ·have hmax:=hA.lev;have a2:(a:Int) < 2 ^ 62:=by
       have:=xW (4 * n) (lv.map fun z=>code z.1) ?_ ?_
       ·simp only [List.length_map] at this
        omega
       ·unfold List.Nodup
        rw [List.pairwise_map]
        refine hA.lev.sorted.imp_of_mem fun {a b} ha hb h e => ?_;have:=code_inj (hA.node a ha).1 (hA.node b hb).1 e;have t1:=hA.tr a ha;have t2:=hA.tr b hb
        rw [this] at t1
        have:a.2=b.2:=by
         have uniq:∀ {x:af} {p q:List Int},Tr m x p→Tr m x q→p=q:=by
          intro x p q h1
          induction h1 generalizing q with
          | root h =>
           intro h2;cases h2 with
           | root=>rfl
           | back h0=>omega
          | back h0 h ht ih =>
           intro h2;cases h2 with
           | root h=>omega
           | back _ _ ht'=>rw [ih ht']
         exact uniq t1 t2
        rw [this] at h
        exact LJ h
       ·intro v hv;obtain ⟨z,hz,rfl⟩:=List.mem_map.1 hv;have:=hA.node z hz;unfold code
        split <;> split <;> omega
      rintro (⟨m2,a1,b2⟩ | r) hu
      ·unfold rM
       dsimp only
       refine ag ?_
       rw [bA (by omega) (by omega)]
       refine ⟨⟨a + 1,rfl,hk,hu.1.next,fun b y p hb hy => ?_⟩,by dsimp only; omega⟩
       rcases Nat.lt_or_ge b a with h | h
       ·exact hcl b y p h hy
       ·obtain rfl:b=a:=by omega
        rw [hx] at hy
        cases hy;exact hu.2
      ·obtain ⟨h3,rfl⟩:=hu;unfold rM
       dsimp only
       refine ax (ax (ag (.inr ⟨lv[a].2,rfl,hA.lev.first hA.no hx h3 hcl,.inr ?_⟩)));have:=(hA.lev.ok _ (List.mem_of_getElem? hx)).2
       dsimp only at this
       rw [this]
       omega
    ·have:a=lv.length:=by
      have:¬ a < lv.length:=by simpa using hk
      omega
     subst this;refine ax (ag ?_)
     rw [bA (by omega) (by omega)]
     obtain ⟨lv',seen',e4,hA'⟩:=sH.level hA.lev hA.no hS (fun b y p hb=>hcl b y p (List.getElem?_eq_some_iff.1 hb).1 hb);exact ⟨⟨k + 1,lv',seen',e4,hA',by first | (dsimp only; omega) | omega,by first | (dsimp only; omega) | omega⟩,by first | (dsimp only; omega) | omega⟩
   ·have:¬ 0 < lv.length:=by simpa using hq
    exact List.eq_nil_of_length_eq_zero (by omega)
  ·have hc:¬ (k:Int) + 2 < limit:=by simpa using hc
   unfold kT;exact hnone (.inl (by omega))
 ·unfold rQ
  dsimp only
  refine ag (.inr ⟨[],rfl,⟨Nj.2 hu,fun q hq=>⟨Nat.zero_le _,fun h => ?_⟩⟩,.inl rfl⟩)
  rw [List.eq_nil_of_length_eq_zero h]
  exact zT _
end Go.Proofs.YtfpeabnehpclnaaGreatT
namespace Go.Proofs.YtfpeabnehpclnaaGreatT
open Go Go.Proofs Go.Proofs.YtfpeabnehpclnaaGreatE
set_option linter.unusedVariables false
set_option linter.unusedSimpArgs false
set_option linter.unusedSectionVars false
variable {t l:Int→Int→Bool} {s:Int} {n k:Nat}
def gt (w:List (Int×Int)) (i:Int) (b:Bool):Int:=if b then (idx w i).2 else (idx w i).1
theorem zV {α:Type} [Inhabited α] {xs:List α} {i j:Int} {v:α} (h0:0≤i) (h1:i < xs.length) (hj:0≤j):idx (xs.set i.toNat v) j=if j=i then v else idx xs j:=by
 have:=Nu (xs:=xs) (v:=v) (j:=j.toNat) h0 h1
 rw [Int.toNat_of_nonneg hj] at this
 exact this
def home (s:Int) (x:af):Prop:=x.node=s ∧ ¬ (x.last_=true∧x.first_=true)
abbrev LP (t l:Int→Int→Bool) (s:Int) (n:Nat) (x:af) (p:List Int):Prop:=Clo (ext t l s n) (clo t l s) x p
theorem Nk {x:af} {j:Int} (hx:0≤x.node):ext t l s n x j=stp t l s n x j:=by unfold ext; rw [if_neg (by omega)]
section
variable {f:Bool}
end
end Go.Proofs.YtfpeabnehpclnaaGreatT
namespace Go.Proofs.YtfpeabnehpclnaaGreatT
open Go Go.Proofs Go.Proofs.YtfpeabnehpclnaaGreatE
set_option linter.unusedVariables false
set_option linter.unusedSimpArgs false
set_option linter.unusedSectionVars false
variable {t l:Int→Int→Bool} {s:Int} {n k:Nat} {f:Bool}
end Go.Proofs.YtfpeabnehpclnaaGreatT
namespace Go.Proofs.YtfpeabnehpclnaaGreatT
open Go Go.Proofs Go.Proofs.YtfpeabnehpclnaaGreatE
set_option linter.unusedVariables false
set_option linter.unusedSimpArgs false
set_option linter.unusedSectionVars false
variable {t l:Int→Int→Bool} {s:Int} {n k:Nat} {f:Bool}
theorem Ka {j:Int} {y:af}:ext t l s n root j=some y↔(s≤j∧j < n∧(t s j=true∨l s j=true))∧y=⟨j,!t s j,!t s j⟩:=by
 have e:ext t l s n root j=(stp t l s n ⟨s,false,false⟩ j).map (fun y=>⟨y.node,y.last_,y.last_⟩):=rfl
 rw [e]
 constructor
 ·intro h;cases hq:stp t l s n ⟨s,false,false⟩ j with
  | none=>rw [hq] at h; cases h
  | some z =>
   rw [hq] at h
   obtain ⟨h1,h2⟩:=oK.1 hq;cases h
   rw [h2]
   exact ⟨⟨h1.1,h1.2.1,h1.2.2.imp id (·.1)⟩,rfl⟩
 ·rintro ⟨h,rfl⟩
  rw [oK.2 ⟨⟨h.1,h.2.1,h.2.2.imp id fun h=>⟨h,rfl⟩⟩,rfl⟩]
  rfl
end Go.Proofs.YtfpeabnehpclnaaGreatT
namespace Go.Proofs.YtfpeabnehpclnaaGreatT
open Go Go.Proofs Go.Proofs.YtfpeabnehpclnaaGreatE
set_option linter.unusedVariables false
set_option linter.unusedSimpArgs false
set_option linter.unusedSectionVars false
structure ko (t l:Int→Int→Bool) (n:Nat) (k:Nat) (c:Nat→Int):Prop where
 pos:0 < k
 per:∀ i,c (i + k)=c i
 node:∀ i,0≤c i∧c i < n
 edge:∀ i,t (c i) (c (i + 1))=true∨(l (c i) (c (i + 1))=true∧t (c (i + 1)) (c (i + 2))=true)
variable {t l:Int→Int→Bool} {n k:Nat} {c:Nat→Int}
theorem ko.rot (h:ko t l n k c) (m:Nat):ko t l n k (fun i=>c (m + i)) :=
 ⟨h.pos,fun i=>by have:=h.per (m + i); rwa [Nat.add_assoc] at this,fun i=>h.node (m + i),fun i=>h.edge (m + i)⟩
theorem ko.mod (h:ko t l n k c) (i:Nat):c (i % k)=c i:=by
 have:∀ q r,c (r + k * q)=c r:=by
  intro q
  induction q with
  | zero=>intro r; simp
  | succ q ih=>intro r; rw [show r + k * (q + 1)=(r + k * q) + k by rw [Nat.mul_add]; omega,h.per,ih]
 conv=>rhs; rw [← Nat.mod_add_div i k]
 exact (this _ _).symm
theorem HV {d:Nat→Int} {b:Nat} (hb:0 < b) (h:d 0=d b) (i:Nat):d ((i + 1) % b)=d (i % b + 1):=by
 have h1:=Nat.mod_lt i hb;rcases Nat.lt_or_ge (i % b + 1) b with h2 | h2
 ·rw [show (i + 1) % b=i % b + 1 by rw [Nat.add_mod,Nat.mod_eq_of_lt (show 1 < b by omega),Nat.mod_eq_of_lt h2]]
 ·have h3:i % b + 1=b:=by omega
  rw [show (i + 1) % b=0 by rw [← Nat.mod_add_mod,h3,Nat.mod_self],h3,h]
theorem LQ {d:Nat→Int} {b:Nat} (hb:0 < b) (h:d 0=d b) (i:Nat):d ((i + 2) % b)=if i % b + 1 < b then d (i % b + 2) else d 1:=by
 have h1:=Nat.mod_lt i hb;have h2:=HV hb h (i + 1)
 rw [show i + 1 + 1=i + 2 from rfl] at h2
 rw [h2]
 split
 ·rename_i h3
  rw [show (i + 1) % b=i % b + 1 by rw [Nat.add_mod,Nat.mod_eq_of_lt (show 1 < b by omega),Nat.mod_eq_of_lt h3]]
 ·have h3:i % b + 1=b:=by omega
  rw [show (i + 1) % b=0 by rw [← Nat.mod_add_mod,h3,Nat.mod_self]]
theorem HY {d:Nat→Int} {b:Nat} (hb:0 < b) (h:d 0=d b) (hn:∀ i,0≤d i∧d i < n) (he:∀ i,i + 1 < b→t (d i) (d (i + 1))=true∨(l (d i) (d (i + 1))=true∧t (d (i + 1)) (d (i + 2))=true))
  (hl:t (d (b - 1)) (d b)=true∨(l (d (b - 1)) (d b)=true∧t (d 0) (d 1)=true)):ko t l n b (fun i=>d (i % b)):=by
 refine ⟨hb,fun i=>by simp,fun i=>hn _,fun i => ?_⟩
 have h1:=Nat.mod_lt i hb
 rw [HV hb h,LQ hb h]
 split
 ·rename_i h2
  exact he _ h2
 ·have h3:i % b + 1=b:=by omega
  rw [h3,show i % b=b - 1 by omega]
  rw [← h] at hl ⊢
  exact hl
theorem ko.split (h:ko t l n k c) {b:Nat} (h0:0 < b) (h1:b < k) (h2:c 0=c b):∃ k' c',k' < k∧ko t l n k' c':=by
 have hk:c k=c 0:=by have:=h.per 0; rwa [Nat.zero_add] at this
 have a2:c (k + 1)=c 1:=by have:=h.per 1; rwa [Nat.add_comm] at this
 by_cases hg:t (c (b - 1)) (c b)=true∨t (c 0) (c 1)=true
 ·refine ⟨b,_,h1,HY h0 h2 h.node (fun i _=>h.edge i) ?_⟩;have:=h.edge (b - 1)
  rw [show b - 1 + 1=b by omega] at this
  rcases hg with hg | hg
  ·exact .inl hg
  ·rcases this with h3 | ⟨h3,_⟩
   ·exact .inl h3
   ·exact .inr ⟨h3,hg⟩
 ·have e1:=h.edge (b - 1)
  rw [show b - 1 + 1=b by omega,show b - 1 + 2=b + 1 by omega] at e1
  have a1:t (c b) (c (b + 1))=true:=by
   rcases e1 with e | ⟨_,e⟩
   ·exact absurd (.inl e) hg
   ·exact e
  refine ⟨k - b,_,by omega,HY (d:=fun i=>c (b + i)) (by omega) (by show c (b + 0)=c (b + (k - b)); rw [show b + (k - b)=k by omega,hk,h2]; rfl) (fun i=>h.node _) (fun i _=>h.edge (b + i)) ?_⟩
  have e2:=h.edge (k - 1)
  rw [show k - 1 + 1=k by omega,show k - 1 + 2=k + 1 by omega] at e2
  rw [show b + (k - b - 1)=k - 1 by omega,show b + (k - b)=k by omega]
  rcases e2 with e | ⟨e,_⟩
  ·exact .inl e
  ·exact .inr ⟨e,a1⟩
theorem ko.split' (h:ko t l n k c) {a b:Nat} (h0:a < b) (h1:b < k) (h2:c a=c b):∃ k' c',k' < k∧ko t l n k' c' :=
 (h.rot a).split (b:=b - a) (by omega) (by omega) (by show c (a + 0)=c (a + (b - a)); rw [show a + (b - a)=b by omega]; exact h2)
theorem ko.inj (h:ko t l n k c) (hm:∀ k' c',ko t l n k' c'→k≤k') {a b:Nat} (ha:a < k) (hb:b < k) (e:c a=c b):a=b:=by
 rcases Nat.lt_trichotomy a b with h1 | h1 | h1
 ·obtain ⟨k',c',h2,h3⟩:=h.split' h1 hb e;have:=hm k' c' h3
  omega
 ·exact h1
 ·obtain ⟨k',c',h2,h3⟩:=h.split' h1 ha e.symm;have:=hm k' c' h3
  omega
theorem ko.short (h:ko t l n k c) (hm:∀ k' c',ko t l n k' c'→k≤k'):k≤n:=by
 have:=xW n ((List.range k).map fun i=>(c i).toNat) ?_ ?_
 ·simpa using this
 ·unfold List.Nodup
  rw [List.pairwise_map]
  refine List.pairwise_lt_range.imp_of_mem fun {a b} ha hb h1 e => ?_;have h2:=h.node a;have h3:=h.node b;have:=h.inj hm (List.mem_range.1 ha) (List.mem_range.1 hb) (by omega)
  omega
 ·intro v hv;obtain ⟨i,_,rfl⟩:=List.mem_map.1 hv;have:=h.node i
  omega
open Classical in
theorem ko.least (h:ko t l n k c):∃ k' c',ko t l n k' c'∧∀ k2 c2,ko t l n k2 c2→k'≤k2:=by
 induction k using Nat.strongRecOn generalizing c with
 | ind k ih =>
  by_cases hs:∃ k2 c2,k2 < k∧ko t l n k2 c2
  ·obtain ⟨k2,c2,h1,h2⟩:=hs;exact ih k2 h1 h2
  ·exact ⟨k,c,h,fun k2 c2 h2=>Nat.le_of_not_lt fun h1=>hs ⟨k2,c2,h1,h2⟩⟩
theorem Kb (c:Nat→Int):∀ k,0 < k→∃ m,m < k∧∀ i,i < k→c m≤c i
 | 0,h=>absurd h (Nat.lt_irrefl _)
 | 1,_=>⟨0,by omega,fun i hi=>by rw [show i=0 by omega]; omega⟩
 | k + 2,_=>by
  obtain ⟨m,h1,h2⟩:=Kb c (k + 1) (by omega)
  by_cases h3:c (k + 1) < c m
  ·refine ⟨k + 1,by omega,fun i hi => ?_⟩
   rcases Nat.lt_or_ge i (k + 1) with h4 | h4
   ·have:=h2 i h4; omega
   ·rw [show i=k + 1 by omega]; omega
  ·refine ⟨m,by omega,fun i hi => ?_⟩
   rcases Nat.lt_or_ge i (k + 1) with h4 | h4
   ·exact h2 i h4
   ·rw [show i=k + 1 by omega]; omega
def at3 (c:List Int) (i:Nat):Int:=idx c ((i % c.length:Nat):Int)
def Bc (t l:Int→Int→Bool) (n:Nat) (c:List Int):Prop:=ko t l n c.length (at3 c)
theorem yI {c:List Int} {i:Nat} (h:i < c.length):at3 c i=idx c (i:Int):=by unfold at3; rw [Nat.mod_eq_of_lt h]
theorem RJ (h:ko t l n k c):((List.range k).map c).length=k∧(∀ i,at3 ((List.range k).map c) i=c i)∧Bc t l n ((List.range k).map c):=by
 have hl:((List.range k).map c).length=k:=by simp
 have ha:∀ i,at3 ((List.range k).map c) i=c i:=by
  intro i;have h1:=Nat.mod_lt i h.pos;unfold at3
  rw [hl,lQ,List.getD_eq_getElem?_getD,List.getElem?_map,List.getElem?_range h1]
  exact h.mod i
 refine ⟨hl,ha,?_⟩;unfold Bc
 rw [hl,show at3 ((List.range k).map c)=c from funext ha]
 exact h
variable {s:Int}
theorem SS (hs:0≤s∧s < n) {p:List Int}:∀ {z:af},run (ext t l s n) root p=some z→(∀ x ∈ p,s≤x∧x < n) ∧
  (∀ i:Nat,i < p.length→(t (at3 (s::p) i) (at3 (s::p) (i + 1))=true∨l (at3 (s::p) i) (at3 (s::p) (i + 1))=true)∧(0 < i→t (at3 (s::p) (i - 1)) (at3 (s::p) i)=true∨t (at3 (s::p) i) (at3 (s::p) (i + 1))=true)) ∧
  (p=[]∧z=root∨p≠[]∧z.node=at3 (s::p) p.length∧z.last_ = !t (at3 (s::p) (p.length - 1)) (at3 (s::p) p.length)∧z.first_ = !t (at3 (s::p) 0) (at3 (s::p) 1)):=by
 have app:∀ (q:List Int) (j:Int) (i:Nat),i≤q.length→at3 (s::(q++[j])) i=at3 (s::q) i:=by
  intro q j i hi
  rw [yI (by simp; omega),yI (by simp; omega),← List.cons_append]
  rw [lQ,lQ,List.getD_eq_getElem?_getD,List.getD_eq_getElem?_getD,List.getElem?_append_left (by simp; omega)]
 have top:∀ (q:List Int) (j:Int),at3 (s::(q++[j])) (q.length + 1)=j:=by
  intro q j
  rw [yI (by simp),← List.cons_append,lQ,List.getD_eq_getElem?_getD,List.getElem?_append_right (by simp)]
  simp
 have go:∀ (m:Nat) (p:List Int) (z:af),p.length=m→run (ext t l s n) root p=some z→(∀ x ∈ p,s≤x∧x < n) ∧
  (∀ i:Nat,i < p.length→(t (at3 (s::p) i) (at3 (s::p) (i + 1))=true∨l (at3 (s::p) i) (at3 (s::p) (i + 1))=true)∧(0 < i→t (at3 (s::p) (i - 1)) (at3 (s::p) i)=true∨t (at3 (s::p) i) (at3 (s::p) (i + 1))=true)) ∧
  (p=[]∧z=root∨p≠[]∧z.node=at3 (s::p) p.length∧z.last_ = !t (at3 (s::p) (p.length - 1)) (at3 (s::p) p.length)∧z.first_ = !t (at3 (s::p) 0) (at3 (s::p) 1)):=by
  intro m
  induction m with
  | zero =>
   intro p z hp hr;obtain rfl:=List.eq_nil_of_length_eq_zero hp;exact ⟨by simp,by simp,.inl ⟨rfl,(Option.some.inj hr).symm⟩⟩
  | succ m ih =>
   intro p z hp hr;obtain ⟨q,j,rfl⟩:∃ q j,p=q++[j]:=⟨_,_,(List.dropLast_concat_getLast (by intro e; rw [e] at hp; simp at hp)).symm⟩;have hq:q.length=m:=by simpa using hp
   rw [qj] at hr
   cases hy:run (ext t l s n) root q with
   | none=>rw [hy] at hr; cases hr
   | some y =>
    rw [hy] at hr
    have hr:ext t l s n y j=some z:=hr;obtain ⟨h1,h2,h3⟩:=ih q y hq hy;have hlo:=Bt hr;have hbound:∀ x ∈ q++[j],s≤x∧x < n:=by
     intro x hx;rcases List.mem_append.1 hx with hx | hx
     ·exact h1 x hx
     ·simp only [List.mem_singleton] at hx; subst hx; exact ⟨hlo.1,hlo.2.1⟩
    have hlen:(q++[j]).length=q.length + 1:=by simp
    have key:(t (at3 (s::q) q.length) j=true∨l (at3 (s::q) q.length) j=true)∧(0 < q.length→t (at3 (s::q) (q.length - 1)) (at3 (s::q) q.length)=true∨t (at3 (s::q) q.length) j=true) ∧
      z.node=j∧z.last_ = !t (at3 (s::q) q.length) j∧z.first_ = !t (at3 (s::(q++[j])) 0) (at3 (s::(q++[j])) 1):=by
     rcases h3 with ⟨rfl,rfl⟩ | ⟨h4,h5,h6,h7⟩
     ·obtain ⟨h8,rfl⟩:=Ka.1 hr;exact ⟨h8.2.2,fun h=>by simp at h,rfl,rfl,rfl⟩
     ·have hyn:0≤y.node:=by
       rw [h5,yI (by simp),lQ]
       have hql:0 < q.length:=List.length_pos_iff.2 h4;have hm:(s::q)[q.length]'(by simp) ∈ q:=by
        obtain ⟨q',b,rfl⟩:∃ q' b,q=q'++[b]:=⟨_,_,(List.dropLast_concat_getLast h4).symm⟩
        simp
       rw [List.getD_eq_getElem?_getD,List.getElem?_eq_getElem (by simp)]
       have:=h1 _ hm
       simp only [Option.getD_some]
       omega
      rw [Nk hyn] at hr
      obtain ⟨h8,rfl⟩:=oK.1 hr
      rw [h5] at h8
      refine ⟨h8.2.2.imp id (·.1),fun _ => ?_,rfl,by dsimp only; rw [h5],?_⟩
      ·rcases h8.2.2 with h9 | ⟨_,h9⟩
       ·exact .inr h9
       ·rw [h6] at h9
        left
        simpa using h9
      ·dsimp only
       rw [h7,app q j 0 (by omega),app q j 1 (List.length_pos_iff.2 h4)]
    refine ⟨hbound,fun i hi => ?_,.inr ⟨by simp,?_,?_,key.2.2.2.2⟩⟩
    ·rw [hlen] at hi
     rcases Nat.lt_or_ge i q.length with h4 | h4
     ·rw [app q j i (by omega),app q j (i + 1) (by omega),app q j (i - 1) (by omega)]
      exact h2 i h4
     ·obtain rfl:i=q.length:=by omega
      rw [app q j q.length (Nat.le_refl _),top,app q j (q.length - 1) (by omega)]
      exact ⟨key.1,key.2.1⟩
    ·rw [hlen,top]; exact key.2.2.1
    ·rw [hlen,Nat.add_sub_cancel,top,app q j q.length (Nat.le_refl _)]
     exact key.2.2.2.1
 intro z hz;exact go _ p z rfl hz
theorem vz (c:List Int) (i:Nat):at3 c (c.length + i)=at3 c i:=by unfold at3; rw [Nat.add_mod_left]
theorem Kc (hs:0≤s∧s < n) {p:List Int} (h:LP t l s n root p):Bc t l n (s::p)∧∀ x ∈ p,s≤x:=by
 obtain ⟨z,hr,hc⟩:=h;obtain ⟨h1,h2,h3⟩:=SS hs hr;have hlen:(s::p).length=p.length + 1:=rfl;have h0:at3 (s::p) 0=s:=rfl;have hw:at3 (s::p) (p.length + 1)=s:=by have:=vz (s::p) 0; rwa [hlen,h0] at this
 have a1:at3 (s::p) (p.length + 2)=at3 (s::p) 1:=by have:=vz (s::p) 1; rwa [hlen] at this
 have last:(t (at3 (s::p) p.length) s=true∨(l (at3 (s::p) p.length) s=true∧t s (at3 (s::p) 1)=true))∧(0 < p.length→t (at3 (s::p) (p.length - 1)) (at3 (s::p) p.length)=true∨t (at3 (s::p) p.length) s=true):=by
  rcases h3 with ⟨rfl,rfl⟩ | ⟨h4,h5,h6,h7⟩
  ·have:t s s=true:=hc;exact ⟨.inl this,fun h=>by simp at h⟩
  ·have hzn:¬ z.node < 0:=by
    have:=h2 (p.length - 1) (by have:=List.length_pos_iff.2 h4; omega)
    rw [h5,yI (by simp),lQ,List.getD_eq_getElem?_getD,List.getElem?_eq_getElem (by simp)]
    have hm:(s::p)[p.length]'(by simp) ∈ p:=by
     obtain ⟨q',b,rfl⟩:∃ q' b,p=q'++[b]:=⟨_,_,(List.dropLast_concat_getLast h4).symm⟩
     simp
    have:=h1 _ hm
    simp only [Option.getD_some]
    omega
   unfold clo at hc
   rw [if_neg hzn,h5,h6,h7,h0] at hc
   rcases hc with hc | ⟨hc,h8,h9⟩
   ·exact ⟨.inl hc,fun _ => .inr hc⟩
   ·exact ⟨.inr ⟨hc,by simpa using h9⟩,fun _ => .inl (by simpa using h8)⟩
 refine ⟨⟨by simp,fun i=>by rw [Nat.add_comm]; exact vz _ _,fun i => ?_,?_⟩,fun x hx=>(h1 x hx).1⟩
 ·have hi:=Nat.mod_lt i (show 0 < (s::p).length by simp);unfold at3
  rw [lQ,List.getD_eq_getElem?_getD,List.getElem?_eq_getElem hi,Option.getD_some]
  have hm:=List.getElem_mem hi;rcases List.mem_cons.1 hm with e | e
  ·rw [e]; exact hs
  ·have:=h1 _ e; omega
 ·have main:∀ i,i≤p.length→t (at3 (s::p) i) (at3 (s::p) (i + 1))=true∨(l (at3 (s::p) i) (at3 (s::p) (i + 1))=true∧t (at3 (s::p) (i + 1)) (at3 (s::p) (i + 2))=true):=by
   intro i hi;rcases Nat.lt_or_ge i p.length with h4 | h4
   ·cases ht:t (at3 (s::p) i) (at3 (s::p) (i + 1)) with
    | true=>exact .inl rfl
    | false =>
     right
     have h5:=h2 i h4
     rw [ht] at h5
     refine ⟨by simpa using h5.1,?_⟩
     rcases Nat.lt_or_ge (i + 1) p.length with h6 | h6
     ·have h7:=(h2 (i + 1) h6).2 (by omega)
      rw [Nat.add_sub_cancel,ht] at h7
      simpa using h7
     ·have h7:=last.2 (by omega)
      rw [show p.length=i + 1 by omega,Nat.add_sub_cancel,ht] at h7
      rw [show i + 2=p.length + 1 by omega,hw]
      simpa using h7
   ·obtain rfl:i=p.length:=by omega
    rw [hw,a1]
    exact last.1
  intro i;have hi:=Nat.mod_lt i (show 0 < (s::p).length by simp);have hm:=main (i % (s::p).length) (Nat.le_of_lt_succ hi);have e:∀ d,at3 (s::p) (i % (s::p).length + d)=at3 (s::p) (i + d):=by intro d; unfold at3; rw [Nat.mod_add_mod]
  rw [e 1,e 2] at hm
  have e0:=e 0
  simp only [Nat.add_zero] at e0
  rw [e0] at hm
  exact hm
theorem Qj (hs:0≤s∧s < n) {p:List Int} (h:Bc t l n (s::p)) (hp:∀ x ∈ p,s≤x):LP t l s n root p:=by
 have hlen:(s::p).length=p.length + 1:=rfl;have h0:at3 (s::p) 0=s:=rfl;have hw:at3 (s::p) (p.length + 1)=s:=by have:=vz (s::p) 0; rwa [hlen,h0] at this
 have a2:at3 (s::p) (p.length + 2)=at3 (s::p) 1:=by have:=vz (s::p) 1; rwa [hlen] at this
 have hat:∀ i (hi:i < p.length),at3 (s::p) (i + 1)=p[i]:=by
  intro i hi
  rw [yI (by simp; omega),lQ,List.getD_eq_getElem?_getD,List.getElem?_cons_succ,List.getElem?_eq_getElem hi]
  rfl
 have hrun:∀ m,m≤p.length→∃ z,run (ext t l s n) root (p.take m)=some z∧(m=0∧z=root∨0 < m∧z=⟨at3 (s::p) m,!t (at3 (s::p) (m - 1)) (at3 (s::p) m),!t s (at3 (s::p) 1)⟩):=by
  intro m
  induction m with
  | zero=>intro _; exact ⟨root,rfl,.inl ⟨rfl,rfl⟩⟩
  | succ m ih =>
   intro hm;obtain ⟨z,hz,a1⟩:=ih (by omega);have hj:=hat m (by omega);have hb:s≤at3 (s::p) (m + 1)∧at3 (s::p) (m + 1) < n:=⟨by rw [hj]; exact hp _ (List.getElem_mem _),(h.node (m + 1)).2⟩
   have he:=h.edge m
   rw [List.take_succ_eq_append_getElem (by omega),qj,hz,← hj]
   rcases a1 with ⟨rfl,rfl⟩ | ⟨h1,rfl⟩
   ·refine ⟨⟨at3 (s::p) 1,!t s (at3 (s::p) 1),!t s (at3 (s::p) 1)⟩,Ka.2 ⟨⟨hb.1,hb.2,?_⟩,rfl⟩,.inr ⟨by omega,rfl⟩⟩
    rcases he with h2 | h2
    ·exact .inl h2
    ·exact .inr h2.1
   ·refine ⟨_,?_,.inr ⟨by omega,rfl⟩⟩
    show ext t l s n _ _=_
    rw [Nk (h.node m).1]
    refine oK.2 ⟨⟨hb.1,hb.2,?_⟩,rfl⟩
    dsimp only
    rcases he with h2 | h2
    ·exact .inl h2
    ·cases ht:t (at3 (s::p) m) (at3 (s::p) (m + 1)) with
     | true=>exact .inl rfl
     | false =>
      refine .inr ⟨h2.1,?_⟩;have h3:=h.edge (m - 1)
      rw [show m - 1 + 1=m by omega,show m - 1 + 2=m + 1 by omega,ht] at h3
      simpa using h3
 obtain ⟨z,hz,a1⟩:=hrun p.length (Nat.le_refl _)
 rw [List.take_length] at hz
 refine ⟨z,hz,?_⟩;have he:=h.edge p.length
 rw [hw,a2] at he
 rcases a1 with ⟨h1,rfl⟩ | ⟨h1,rfl⟩
 ·rw [h1,h0] at he
  have:at3 (s::p) 1=s:=by have:=hw; rwa [h1] at this
  rw [this] at he
  show t s s=true
  rcases he with he | he
  ·exact he
  ·exact he.2
 ·unfold clo
  dsimp only
  rw [if_neg (by have:=(h.node p.length).1; omega)]
  rcases he with he | he
  ·exact .inl he
  ·cases ht:t (at3 (s::p) p.length) s with
   | true=>exact .inl rfl
   | false =>
    refine .inr ⟨he.1,?_,by simp [he.2]⟩
    have h3:=h.edge (p.length - 1)
    rw [show p.length - 1 + 1=p.length by omega,show p.length - 1 + 2=p.length + 1 by omega,hw,ht] at h3
    simpa using h3
theorem FL (h:ko t l n k c):∃ s p,0≤s∧s < (n:Int)∧LP t l s n root p∧p.length + 1≤n∧p.length + 1≤k:=by
 obtain ⟨k',c',h1,h2⟩:=h.least;have h3:=h1.short h2;obtain ⟨m,hm,hmin⟩:=Kb c' k' h1.pos;have h4:=h1.rot m;obtain ⟨e1,e2,e3⟩:=RJ h4;obtain ⟨kk,rfl⟩:∃ kk,k'=kk + 1:=⟨k' - 1,by have:=h1.pos; omega⟩
 rw [List.range_succ_eq_map,List.map_cons,List.map_map] at e3
 refine ⟨c' (m + 0),_,(h1.node _).1,(h1.node _).2,Qj (h1.node _) e3 ?_,?_,?_⟩
 ·intro x hx;obtain ⟨i,hi,rfl⟩:=List.mem_map.1 hx;have:=hmin ((m + (i + 1)) % (kk + 1)) (Nat.mod_lt _ (by omega))
  rw [h1.mod] at this
  exact this
 ·simp; omega
 ·have:=h2 k c h
  simp; omega
end Go.Proofs.YtfpeabnehpclnaaGreatT
namespace Go.Proofs.YtfpeabnehpclnaaGreatT
open Go Go.Proofs Go.Proofs.YtfpeabnehpclnaaGreatE
set_option linter.unusedVariables false
set_option linter.unusedSimpArgs false
set_option linter.unusedSectionVars false
def zW (g:cz) (mask i j:Int) (k:Nat):Prop:=(idx g.Edges (k:Int)).From=i∧(idx g.Edges (k:Int)).To=j∧cK .i64 (idx g.Edges (k:Int)).Kind mask≠0
instance (g:cz) (mask i j:Int) (k:Nat):Decidable (zW g mask i j k):=by unfold zW; infer_instance
def fe (g:cz) (mask:Int):Nat→Int→Int→Int
 | 0,_,_=>0
 | x + 1,i,j=>if fe g mask x i j=0∧zW g mask i j x then (x:Int) + 1 else fe g mask x i j
theorem IV (g:cz) (mask:Int) (x:Nat) (i j:Int):fe g mask (x + 1) i j=if fe g mask x i j=0∧zW g mask i j x then (x:Int) + 1 else fe g mask x i j:=rfl
theorem EL (g:cz) (mask i j:Int):∀ x:Nat,(fe g mask x i j=0∧∀ k,k < x → ¬ zW g mask i j k)∨∃ k:Nat,fe g mask x i j=(k:Int) + 1∧k < x∧zW g mask i j k∧∀ k',k' < k → ¬ zW g mask i j k'
 | 0 => .inl ⟨rfl,fun k h=>absurd h (Nat.not_lt_zero _)⟩
 | x + 1=>by
  rw [IV]
  rcases EL g mask i j x with ⟨h1,h2⟩ | ⟨k,h1,h2,h3,h4⟩
  ·by_cases h:zW g mask i j x
   ·rw [if_pos ⟨h1,h⟩]
    exact .inr ⟨x,rfl,by omega,h,h2⟩
   ·rw [if_neg (fun e=>h e.2)]
    refine .inl ⟨h1,fun k hk => ?_⟩;rcases Nat.lt_or_ge k x with h3 | h3
    ·exact h2 k h3
    ·rw [show k=x by omega]; exact h
  ·rw [if_neg (fun e=>by rw [h1] at e; omega)]
   exact .inr ⟨k,h1,by omega,h3,h4⟩
theorem Ke (g:cz) (mask i j:Int) (x:Nat):0≤fe g mask x i j∧fe g mask x i j≤x:=by
 rcases EL g mask i j x with h | ⟨k,h,h2,_⟩ <;> omega
def dY (g:cz) (mask i j:Int):Bool:=decide (fe g mask g.Edges.length i j≠0)
theorem Kg {g:cz} {mask i j:Int}:dY g mask i j=true↔∃ k,k < g.Edges.length∧zW g mask i j k:=by
 unfold dY
 rw [decide_eq_true_iff]
 rcases EL g mask i j g.Edges.length with ⟨h1,h2⟩ | ⟨k,h1,h2,h3,_⟩
 ·exact ⟨fun h=>absurd h1 h,fun ⟨k,hk,h⟩=>absurd h (h2 k hk)⟩
 ·exact ⟨fun _=>⟨k,h2,h3⟩,fun _=>by omega⟩
structure ze (g:cz) (d r:Int) (x:Nat) (tab:List (List aR)):Prop where
 len:tab.length=g.N.toNat
 row:∀ i:Int,0≤i→i < g.N→(idx tab i).length=g.N.toNat
 at_:∀ i j:Int,0≤i→i < g.N→0≤j→j < g.N→idx (idx tab i) j=⟨fe g d x i j,fe g r x i j⟩
theorem ze.put {g:cz} {d r:Int} {x:Nat} {tab:List (List aR)} (h:ze g d r x tab) (hg:Good g) (hx:x < g.Edges.length) {v:aR} {row:List aR} 
  (hrow:row.length=g.N.toNat) (hsame:∀ j,0≤j→j < g.N→j≠(idx g.Edges (x:Int)).To→idx row j=idx (idx tab (idx g.Edges (x:Int)).From) j)
  (hv:idx row (idx g.Edges (x:Int)).To=⟨fe g d (x + 1) (idx g.Edges (x:Int)).From (idx g.Edges (x:Int)).To,fe g r (x + 1) (idx g.Edges (x:Int)).From (idx g.Edges (x:Int)).To⟩) :
  ze g d r (x + 1) (tab.set (idx g.Edges (x:Int)).From.toNat row):=by
 have he:=hg.e x hx;unfold zS at he;have hn:=hg.n0;refine ⟨by rw [List.length_set]; exact h.len,fun i h0 h1 => ?_,fun i j h0 h1 h2 h3 => ?_⟩
 ·rw [zV he.1 (by have:=h.len; omega) h0]
  split
  ·exact hrow
  ·exact h.row i h0 h1
 ·rw [zV he.1 (by have:=h.len; omega) h0]
  have other:¬ (i=(idx g.Edges (x:Int)).From∧j=(idx g.Edges (x:Int)).To)→∀ m,fe g m (x + 1) i j=fe g m x i j:=by
   intro hne m
   rw [IV,if_neg (fun e=>hne ⟨e.2.1.symm,e.2.2.1.symm⟩)]
  split
  ·rename_i e
   by_cases e2:j=(idx g.Edges (x:Int)).To
   ·rw [e2,hv,e]
   ·rw [hsame j h2 h3 e2,← e,h.at_ i j h0 h1 h2 h3,other (fun h=>e2 h.2),other (fun h=>e2 h.2)]
  ·rename_i e
   rw [h.at_ i j h0 h1 h2 h3,other (fun h=>e h.1),other (fun h=>e h.1)]
theorem Ee {g:cz} (hg:Good g) (d r:Int):Tri (gI g d r) (fun net=>net.g=g∧ze g d r g.Edges.length net.links):=by
 have h0:=hg.n0;have h1:=hg.n1;have hm:=hg.m;unfold gI;refine ah (by omega) ?_;refine vC g.N.toNat (fun k tab=>tab.length=g.N.toNat∧∀ i:Nat,i < k→idx tab (i:Int)=List.replicate g.N.toNat default) ⟨by simp,fun i h=>absurd h (Nat.not_lt_zero _)⟩ ?_
 rintro k tab hk ⟨hl,hz⟩;unfold vO
 dsimp only
 refine eP (fun e => ?_) (fun e => ?_)
 ·have e:(k:Int) < (g.N.toNat:Int):=by simpa using e
  refine ah (by omega) (ah (by omega) (ag ?_))
  rw [bA (by omega) (by omega)]
  refine ⟨by omega,by omega,by simp [hl],fun i hi => ?_⟩
  rw [zV (by omega) (by omega) (by omega)]
  split
  ·rfl
  ·exact hz i (by omega)
 ·have e:¬ (k:Int) < (g.N.toNat:Int):=by simpa using e
  have hall:∀ i:Int,0≤i→i < g.N→idx tab i=List.replicate g.N.toNat default:=fun i h2 h3=>by
   have:=hz i.toNat (by omega)
   rwa [Int.toNat_of_nonneg h2] at this
  refine vC g.Edges.length (fun k tab=>ze g d r k tab) ⟨hl,fun i h2 h3=>by rw [hall i h2 h3]; simp,fun i j h2 h3 h4 h5 => ?_⟩ ?_
  ·rw [hall i h2 h3,show j=(j.toNat:Int) by omega,Sb]
   rfl
  ·rintro x tab hx hL;unfold vN
   dsimp only
   refine eP (fun e => ?_) (fun e => ?_)
   ·have e:(x:Int) < (g.Edges.length:Int):=by simpa using e
    have hx:x < g.Edges.length:=by omega
    have he:=hg.e x hx;unfold zS at he;have hrow:=hL.row _ he.1 he.2.1;have hat:=hL.at_ _ _ he.1 he.2.1 he.2.2.1 he.2.2.2.1;refine ah (by omega) (ah (by have:=hL.len; omega) (ah (by omega) ?_))
    rw [bA (x:=(x:Int) + 1) (by omega) (by omega)]
    generalize hF:(idx g.Edges (x:Int)).From=F at *;generalize hT:(idx g.Edges (x:Int)).To=T at *;have hset:∀ v w:aR,idx ((idx tab F).set T.toNat v) T=v:=fun v w=>by rw [zV he.2.2.1 (by omega) he.2.2.1,if_pos rfl]
    have fed:∀ m,fe g m (x + 1) F T=if fe g m x F T=0∧cK .i64 (idx g.Edges (x:Int)).Kind m≠0 then (x:Int) + 1 else fe g m x F T:=by
     intro m
     rw [IV]
     unfold zW
     simp [hF,hT]
    have a1:∀ v:aR,v=⟨fe g d (x + 1) F T,fe g r (x + 1) F T⟩→Up2 (Ω:=((List (List aR))×Int) ⊕ dF) g.Edges.length x (fun k tab=>ze g d r k tab) (fun _=>False) (.inl (tab.set F.toNat ((idx tab F).set T.toNat v),(x:Int) + 1)):=by
     intro v hv;refine ⟨by omega,hx,?_⟩
     have:=hL.put hg hx (v:=v) (row:=(idx tab F).set T.toNat v) (by rw [List.length_set]; exact hrow) (fun j h6 h7 h8=>by rw [hT] at h8; rw [hF,zV he.2.2.1 (by omega) h6,if_neg h8]) (by rw [hF,hT,hset v v,hv])
     rw [hF] at this
     exact this
    have a2:(⟨fe g d x F T,fe g r x F T⟩:aR)=⟨fe g d (x + 1) F T,fe g r (x + 1) F T⟩→Up2 (Ω:=((List (List aR))×Int) ⊕ dF) g.Edges.length x (fun k tab=>ze g d r k tab) (fun _=>False) (.inl (tab.set F.toNat (idx tab F),(x:Int) + 1)):=by
     intro hv;refine ⟨by omega,hx,?_⟩
     have:=hL.put hg hx (v:=default) (row:=idx tab F) hrow (fun j h6 h7 h8=>by rw [hF]) (by rw [hF,hT,hat,hv])
     rw [hF] at this
     exact this
    have wk:∀ {Q:(((List (List aR))×Int) ⊕ dF)→Prop} {u},Up2 (Ω:=((List (List aR))×Int) ⊕ dF) g.Edges.length x (fun k tab=>ze g d r k tab) (fun _=>False) (.inl u)→Up2 g.Edges.length x (fun k tab=>ze g d r k tab) Q (.inl u):=fun h=>h
    simp only [hset _ default,List.set_set,hat] at *
    repeat' (first | with_reducible refine az (fun hq => ?_) (fun hq => ?_) | with_reducible refine ag ?_)
    ·refine wk (a1 _ ?_)
     rename_i q1 q2 q3
     rw [fed d,fed r,if_pos ⟨q2,q1⟩,if_pos ⟨hq,q3⟩]
    ·refine wk (a1 _ ?_)
     rename_i q1 q2 q3
     rw [fed d,fed r,if_pos ⟨q2,q1⟩,if_neg (fun h=>hq h.1)]
    ·refine wk (a1 _ ?_)
     rename_i q1 q2
     rw [fed d,fed r,if_pos ⟨q2,q1⟩,if_neg (fun h=>hq h.2)]
    ·refine wk (a1 _ ?_)
     rename_i q1 q2 q3
     rw [fed d,fed r,if_neg (fun h=>q2 h.1),if_pos ⟨hq,q3⟩]
    ·refine wk (a2 ?_)
     rename_i q1 q2 q3
     rw [fed d,fed r,if_neg (fun h=>q2 h.1),if_neg (fun h=>hq h.1)]
    ·refine wk (a2 ?_)
     rename_i q1 q2
     rw [fed d,fed r,if_neg (fun h=>q2 h.1),if_neg (fun h=>hq h.2)]
    ·refine wk (a1 _ ?_)
     rename_i q1 q3
     rw [fed d,fed r,if_neg (fun h=>q1 h.2),if_pos ⟨hq,q3⟩]
    ·refine wk (a2 ?_)
     rename_i q1 q3
     rw [fed d,fed r,if_neg (fun h=>q1 h.2),if_neg (fun h=>hq h.1)]
    ·refine wk (a2 ?_)
     rename_i q1
     rw [fed d,fed r,if_neg (fun h=>q1 h.2),if_neg (fun h=>hq h.2)]
   ·have e:¬ (x:Int) < (g.Edges.length:Int):=by simpa using e
    obtain rfl:x=g.Edges.length:=by omega
    exact ax (ax (ag ⟨rfl,hL⟩))
theorem Qk {g:cz} (hg:Good g) {d r:Int} {net:dF} (h:net.g=g∧ze g d r g.Edges.length net.links):Hw net g.N.toNat (dY g d) (dY g r):=by
 have h0:=hg.n0;have h1:=hg.n1;have hN:((g.N.toNat:Nat):Int)=g.N:=Int.toNat_of_nonneg h0;refine ⟨by rw [h.1,hN],by omega,h.2.len,fun i h2 h3=>h.2.row i h2 (by omega),fun i j h2 h3 h4 h5 => ?_,fun i j h2 h3 h4 h5 => ?_,fun i j h2 h3 h4 h5=>by rw [h.2.at_ i j h2 (by omega) h4 (by omega)]; exact (Ke g d i j _).1⟩
 ·rw [h.2.at_ i j h2 (by omega) h4 (by omega)]
  unfold dY
  by_cases e:fe g d g.Edges.length i j=0 <;> simp [e]
 ·rw [h.2.at_ i j h2 (by omega) h4 (by omega)]
  unfold dY
  by_cases e:fe g r g.Edges.length i j=0 <;> simp [e]
def iP (t l:Int→Int→Bool) (n:Nat) (B:Int) (k:Nat) (best:List Int):Prop :=
 (best=[]∧∀ s:Int,0≤s→s < k→∀ p,LP t l s n root p→B≤p.length + 1) ∨
 ∃ (s:Int) (p:List Int),best=s::p∧0≤s∧s < k∧s < n∧zU (ext t l s n) (clo t l s) root p∧(p.length:Int) + 1 < B∧∀ (s':Int) (p':List Int),0≤s'→s' < k→LP t l s' n root p'→p.length≤p'.length∧(p'.length=p.length→s≤s')
variable {t l:Int→Int→Bool} {n k:Nat}
theorem iP.none {B:Int} {best:List Int} (h:iP t l n B k best) (hb:best=[]) (hn:∀ p,LP t l k n root p→B≤p.length + 1):iP t l n B (k + 1) best:=by
 rcases h with ⟨rfl,h1⟩ | ⟨s,p,rfl,_⟩
 ·refine .inl ⟨rfl,fun s h2 h3 p hp => ?_⟩
  by_cases e:s=k
  ·subst e; exact hn p hp
  ·exact h1 s h2 (by omega) p hp
 ·cases hb
theorem iP.keep {B:Int} {best:List Int} (h:iP t l n B k best) (hb:best≠[]) (hn:∀ p,LP t l k n root p→best.length≤p.length + 1):iP t l n B (k + 1) best:=by
 rcases h with ⟨rfl,h1⟩ | ⟨s,p,rfl,h2,h3,a1,h4,h5,h6⟩
 ·exact absurd rfl hb
 ·refine .inr ⟨s,p,rfl,h2,by omega,a1,h4,h5,fun s' p' h7 h8 hp' => ?_⟩
  by_cases e:s'=k
  ·subst e;have:=hn p' hp'
   simp only [List.length_cons] at this
   exact ⟨by omega,fun _=>by omega⟩
  ·exact h6 s' p' h7 (by omega) hp'
theorem iP.better {B:Int} {best:List Int} (h:iP t l n B k best) (hk:k < n) {p:List Int} (hp:zU (ext t l k n) (clo t l k) root p) (hB:(p.length:Int) + 1 < B) (hl:best=[]∨p.length + 1 < best.length):iP t l n B (k + 1) ((k:Int)::p):=by
 refine .inr ⟨k,p,rfl,by omega,by omega,by omega,hp,hB,fun s' p' h7 h8 hp' => ?_⟩
 by_cases e:s'=k
 ·subst e;exact ⟨(hp.min p' hp').1,fun _=>by omega⟩
 ·rcases h with ⟨rfl,h1⟩ | ⟨s,p2,rfl,h2,h3,_,h4,h5,h6⟩
  ·have:=h1 s' h7 (by omega) p' hp'
   omega
  ·obtain ⟨h9,_⟩:=h6 s' p' h7 (by omega) hp';rcases hl with hl | hl
   ·cases hl
   ·simp only [List.length_cons] at hl
    omega
end Go.Proofs.YtfpeabnehpclnaaGreatT
namespace Go.Proofs.YtfpeabnehpclnaaGreatT
open Go Go.Proofs Go.Proofs.YtfpeabnehpclnaaGreatE
set_option linter.unusedVariables false
set_option linter.unusedSimpArgs false
set_option linter.unusedSectionVars false
def FM (g:cz) (d r a b:Int):Edge:=if dY g d a b then idx g.Edges (fe g d g.Edges.length a b - 1) else idx g.Edges (fe g r g.Edges.length a b - 1)
def kZ (g:cz) (d r:Int) (c:List Int):List Edge:=(List.range c.length).map fun i=>FM g d r (at3 c i) (at3 c (i + 1))
theorem FN {x m:Nat} (hx:x < m) (hm:m < 2 ^ 62):(w64 ((x:Int) + 1)).tmod (m:Int)=(((x + 1) % m:Nat):Int):=by
 rw [bA (by omega) (by omega)]
 rfl
theorem Kh {c:List Int} {x:Nat} (hx:x < c.length) (hm:c.length < 2 ^ 62):idx c ((w64 ((x:Int) + 1)).tmod (c.length:Int))=at3 c (x + 1):=by
 rw [FN hx hm]
 rfl
theorem Ki {α:Type} (f:Nat→α) (x:Nat):(List.range x).map f++[f x]=(List.range (x + 1)).map f:=by
 rw [List.range_succ,List.map_append]; rfl
variable {g:cz} {d r:Int} {n:Nat}
theorem LU (hg:Good g) {net:dF} (h:net.g=g∧ze g d r g.Edges.length net.links) {c:List Int} (hc:c=[]∨Bc (dY g d) (dY g r) g.N.toNat c) (hl:c.length≤1000):dC net c=some (kZ g d r c):=by
 have h0:=hg.n0;have h1:=hg.n1;have hm:=hg.m
 rw [← eQ]
 unfold dC;refine vC c.length (fun k e=>e=(List.range k).map fun i=>FM g d r (at3 c i) (at3 c (i + 1))) rfl ?_;rintro x e hx rfl;unfold iI
 dsimp only
 refine eP (fun e => ?_) (fun e => ?_)
 ·have e:x < c.length:=by simpa using e
  rcases hc with rfl | hL
  ·simp at e
  ·have n1:=hL.node x;have n2:=hL.node (x + 1);have hlen:=h.2.len;have hrow:=h.2.row (at3 c x) n1.1 (by omega)
   rw [← yI e,Kh e (by omega)]
   refine ah (by omega) (ah (by omega) (ah (by omega) (ah (by rw [FN e (by omega)]; have:=Nat.mod_lt (x + 1) (show 0 < c.length by omega); omega) (ah (by omega) ?_))))
   rw [h.2.at_ _ _ n1.1 (by omega) n2.1 (by omega),h.1]
   have hE:dY g d (at3 c x) (at3 c (x + 1))=true∨dY g r (at3 c x) (at3 c (x + 1))=true:=(hL.edge x).imp id (·.1);have b1:=Ke g d (at3 c x) (at3 c (x + 1)) g.Edges.length;have b2:=Ke g r (at3 c x) (at3 c (x + 1)) g.Edges.length;have hp:qb ⟨fe g d g.Edges.length (at3 c x) (at3 c (x + 1)),fe g r g.Edges.length (at3 c x) (at3 c (x + 1))⟩ (x:Int)=some (if dY g d (at3 c x) (at3 c (x + 1)) then fe g d g.Edges.length (at3 c x) (at3 c (x + 1)) else fe g r g.Edges.length (at3 c x) (at3 c (x + 1))):=by
    unfold qb dY
    dsimp only
    by_cases e:fe g d g.Edges.length (at3 c x) (at3 c (x + 1))=0
    ·simp [e]
    ·simp [e,show 0 < fe g d g.Edges.length (at3 c x) (at3 c (x + 1)) by omega]
   rw [hp]
   refine bX ?_;have hpos:1≤(if dY g d (at3 c x) (at3 c (x + 1)) then fe g d g.Edges.length (at3 c x) (at3 c (x + 1)) else fe g r g.Edges.length (at3 c x) (at3 c (x + 1)))∧(if dY g d (at3 c x) (at3 c (x + 1)) then fe g d g.Edges.length (at3 c x) (at3 c (x + 1)) else fe g r g.Edges.length (at3 c x) (at3 c (x + 1)))≤g.Edges.length:=by
    unfold dY at hE ⊢
    rw [decide_eq_true_iff,decide_eq_true_iff] at hE
    by_cases e:fe g d g.Edges.length (at3 c x) (at3 c (x + 1))=0
    ·simp [e] at hE ⊢; omega
    ·simp [e]; omega
   generalize hv:(if dY g d (at3 c x) (at3 c (x + 1)) then fe g d g.Edges.length (at3 c x) (at3 c (x + 1)) else fe g r g.Edges.length (at3 c x) (at3 c (x + 1)))=v at *;have a1:idx g.Edges (v - 1)=FM g d r (at3 c x) (at3 c (x + 1)):=by
    unfold FM
    rw [← hv]
    split <;> rfl
   rw [bA (x:=v - 1) (by omega) (by omega),a1,bA (by omega) (by omega),Ki (fun i=>FM g d r (at3 c i) (at3 c (i + 1)))]
   refine ah (by omega) (ah (by simp; omega) (ag ⟨by omega,e,rfl⟩))
 ·have e:¬ x < c.length:=by simpa using e
  obtain rfl:x=c.length:=by omega
  exact ax (ag rfl)
theorem xX (hg:Good g) (d r:Int):Tri (cB g d r) (fun res=>∃ best,iP (dY g d) (dY g r) g.N.toNat (g.N + 1) g.N.toNat best∧res=(kZ g d r best,0)):=by
 have h0:=hg.n0;have h1:=hg.n1;unfold cB
 rw [FJ hg]
 refine bX ?_
 simp only [bne_self_eq_false,cond_false]
 refine dN (Ee hg d r) ?_;intro net hnet;have hN:=Qk hg hnet;have hcyc:∀ best k,k≤g.N.toNat→iP (dY g d) (dY g r) g.N.toNat (g.N + 1) k best→(best=[]∨Bc (dY g d) (dY g r) g.N.toNat best)∧(best.length:Int)≤g.N:=by
  intro best k hk hb;rcases hb with ⟨rfl,_⟩ | ⟨s,p,rfl,h2,h3,a1,h4,h5,_⟩
  ·exact ⟨.inl rfl,by simpa using h0⟩
  ·exact ⟨.inr (Kc ⟨h2,a1⟩ h4.clo).1,by simp only [List.length_cons]; omega⟩
 have fin:∀ best k,k≤g.N.toNat→iP (dY g d) (dY g r) g.N.toNat (g.N + 1) k best→iP (dY g d) (dY g r) g.N.toNat (g.N + 1) g.N.toNat best→Tri (oC net best) (fun res=>∃ best,iP (dY g d) (dY g r) g.N.toNat (g.N + 1) g.N.toNat best∧res=(kZ g d r best,0)):=by
  intro best k hk hb a2;obtain ⟨h2,h3⟩:=hcyc best k hk hb;unfold oC
  rw [LU hg hnet h2 (by omega)]
  exact bX (ag ⟨best,a2,rfl⟩)
 refine vC g.N.toNat (fun k best=>iP (dY g d) (dY g r) g.N.toNat (g.N + 1) k best) (.inl ⟨rfl,fun s h2 h3=>by omega⟩) ?_;rintro k best hk hb;unfold vT
 dsimp only
 refine eP (fun e => ?_) (fun e => ?_)
 ·have e:(k:Int) < g.N:=by simpa using e
  have hlen:=(hcyc best k hk hb).2;have go:∀ limit:Int,(best=[]∧limit=g.N + 1∨best≠[]∧limit=best.length)→Tri (oF net best k limit) (Up2 g.N.toNat k (fun k best=>iP (dY g d) (dY g r) g.N.toNat (g.N + 1) k best) (fun res=>∃ best,iP (dY g d) (dY g r) g.N.toNat (g.N + 1) g.N.toNat best∧res=(kZ g d r best,0))):=by
   intro limit hlim;have hlim100:limit≤100:=by rcases hlim with ⟨_,h⟩ | ⟨_,h⟩ <;> omega
   unfold oF;refine eP (fun hq => ?_) (fun hq => ?_)
   ·have hq:limit < 2:=by simpa using hq
    refine ax (fin best k hk hb ?_);rcases hlim with ⟨_,h⟩ | ⟨hne,h⟩
    ·omega
    ·rcases hb with ⟨rfl,_⟩ | ⟨s,p,rfl,h2,h3,a1,h4,h5,h6⟩
     ·exact absurd rfl hne
     ·simp only [List.length_cons] at h
      refine .inr ⟨s,p,rfl,h2,by omega,a1,h4,h5,fun s' p' h7 h8 hp'=>⟨by omega,fun e2 => ?_⟩⟩
      rcases Int.lt_or_le s' k with h9 | h9
      ·exact (h6 s' p' h7 h9 hp').2 e2
      ·omega
   ·have hq:¬ limit < 2:=by simpa using hq
    refine dN (LM hN ⟨by omega,by omega⟩ ⟨by omega,hlim100⟩) ?_;have hw:w64 ((k:Int) + 1)=k + 1:=bA (by omega) (by omega);rintro res (⟨rfl,hno⟩ | ⟨p,rfl,hp,hlp⟩)
    ·simp only [Bool.not_true,cond_false]
     unfold oD
     rw [hw]
     refine ag ⟨by omega,by omega,?_⟩
     rcases hlim with ⟨h2,h3⟩ | ⟨h2,h3⟩
     ·exact hb.none h2 (fun p hp=>by have:=hno p hp; omega)
     ·exact hb.keep h2 (fun p hp=>by have:=hno p hp; omega)
    ·simp only [Bool.not_false,cond_true]
     unfold oD
     rw [hw]
     refine ag ⟨by omega,by omega,?_⟩
     have hlp':(p.length:Int) + 1 < limit:=by
      rcases hlp with rfl | h
      ·simp; omega
      ·exact h
     refine hb.better (by omega) hp ?_ ?_
     ·rcases hlim with ⟨h2,h3⟩ | ⟨h2,h3⟩ <;> omega
     ·rcases hlim with ⟨h2,h3⟩ | ⟨h2,h3⟩
      ·exact .inl h2
      ·exact .inr (by omega)
  refine eP (fun hq => ?_) (fun hq => ?_)
  ·refine go _ (.inr ⟨fun e=>by rw [e] at hq; simp at hq,rfl⟩)
  ·have:best=[]:=by
    have:¬ 0 < best.length:=by simpa using hq
    exact List.eq_nil_of_length_eq_zero (by omega)
   refine go _ (.inl ⟨this,bA (by omega) (by omega)⟩)
 ·have e:¬ (k:Int) < g.N:=by simpa using e
  obtain rfl:k=g.N.toNat:=by omega
  exact ax (fin best _ (Nat.le_refl _) hb hb)
end Go.Proofs.YtfpeabnehpclnaaGreatT
namespace Go.Proofs.YtfpeabnehpclnaaGreatT
open Go Go.Proofs Go.Proofs.YtfpeabnehpclnaaGreatE
set_option linter.unusedVariables false
set_option linter.unusedSimpArgs false
set_option linter.unusedSectionVars false
variable {t l:Int→Int→Bool} {n k:Nat}
def ex1 (t:Int→Int→Bool) (n:Int) (i j:Int):Option Int:=if 0≤j∧j < n∧t i j=true then some j else none
theorem uE {i j y:Int}:ex1 t n i j=some y↔(0≤j∧j < n∧t i j=true)∧y=j:=by
 unfold ex1
 split
 ·rename_i h
  exact ⟨fun e=>⟨h,(Option.some.inj e).symm⟩,fun e=>by rw [e.2]⟩
 ·rename_i h
  exact ⟨fun e=>(nomatch e),fun e=>absurd e.1 h⟩
inductive TrN (m:List (Int×Int)):Int→List Int→Prop where
 | root {x:Int} (h:iR m x=true) (h0:mat m x < 0):TrN m x []
 | back {x:Int} {q:List Int} (h:iR m x=true) (h0:0≤mat m x) (ht:TrN m (mat m x) q):TrN m x (q++[mat m x])
theorem TrN.put {m:List (Int×Int)} {t v:Int} (hn:iR m t=false) {x:Int} {q:List Int} (h:TrN m x q):TrN (fC m t v) x q:=by
 have same:∀ {y:Int},iR m y=true→mat (fC m t v) y=mat m y:=fun {y} hy=>by
  rw [qA,if_neg (fun e=>by rw [e,hn] at hy; cases hy)]
 induction h with
 | root h h0=>exact .root (oO.2 (.inr h)) (by rw [same h]; exact h0)
 | back h h0 ht ih =>
  rw [← same h]
  exact .back (oO.2 (.inr h)) (by rw [same h]; exact h0) (by rw [same h]; exact ih)
theorem Kj {m:List (Int×Int)} {x:Int}:iR m x=true↔x ∈ m.map (·.1):=by
 unfold iR
 simp only [List.any_eq_true,decide_eq_true_eq,List.mem_map]
theorem SV {m:List (Int×Int)} {x:Int} (h:iR m x=false):∀ k ∈ m.map (·.1),k≠x:=by
 intro k hk e;subst e
 rw [Kj.2 hk] at h
 cases h
structure Keys (n:Nat) (m:List (Int×Int)):Prop where
 nd:(m.map (·.1)).Nodup
 node:∀ x ∈ m.map (·.1),0≤x∧x < (n:Int)
theorem Keys.put {m:List (Int×Int)} {x v:Int} (h:Keys n m) (hn:iR m x=false) (hx:0≤x∧x < n):Keys n (fC m x v)∧(fC m x v).length=m.length + 1:=by
 have h1:=SV hn
 rw [yg h1]
 refine ⟨⟨?_,fun y hy => ?_⟩,by simp⟩
 ·rw [List.map_append,List.nodup_append]
  refine ⟨h.nd,by simp,fun a ha b hb => ?_⟩
  simp at hb
  subst hb;exact h1 a ha
 ·rw [List.map_append] at hy
  rcases List.mem_append.1 hy with hy | hy
  ·exact h.node y hy
  ·simp at hy
   subst hy;exact hx
theorem Keys.len {m:List (Int×Int)} (h:Keys n m):m.length≤n:=by
 have:=xW n ((m.map (·.1)).map Int.toNat) ?_ ?_
 ·simpa using this
 ·unfold List.Nodup
  rw [List.pairwise_map]
  refine h.nd.imp_of_mem fun {a b} ha hb h1 e=>h1 ?_;have:=h.node a ha;have:=h.node b hb
  omega
 ·intro v hv;obtain ⟨x,hx,rfl⟩:=List.mem_map.1 hv;have:=h.node x hx
  omega
theorem SX {m:List (Int×Int)} {x:Int} {q:List Int} (h:TrN m x q) (hl:q.length≤1000):∀ acc:List Int,q.length + acc.length≤1000 →
  iter (iU m) (acc,mat m x)=some (.inr (.inr (q++acc,false))):=by
 induction h with
 | root h h0 =>
  rename_i x
  intro acc ha;have e:iU m (acc,mat m x)=some (.inr (.inr (.inr (acc,false)))):=by
   unfold iU
   simp only [show decide (mat m x ≥ 0)=false by simpa using h0,cond_false]
   rfl
  rw [ul,e]
  simp
 | back h h0 ht ih =>
  rename_i x q
  intro acc ha;have e:iU m (acc,mat m x)=some (.inl ([mat m x]++acc,mat m (mat m x))):=by
   unfold iU
   simp only [show decide (mat m x ≥ 0)=true by simpa using h0,cond_true]
   rw [iQ _ (by simp at ha; omega)]
  rw [ul,e]
  refine (ih (by simp at ha; omega) ([mat m x]++acc) (by simp at ha ⊢; omega)).trans ?_
  simp
def fJ (s:Int) (p:List Int):List Int:=(s::p).dropLast
theorem IW {s j x:Int} {p:List Int} (h:(s::p).getLast? = some x):fJ s (p++[j])=fJ s p++[x]:=by
 unfold fJ
 rw [← List.cons_append,List.dropLast_concat]
 have:s::p≠[]:=by simp
 rw [List.getLast?_eq_some_getLast this] at h
 rw [← Option.some.inj h,List.dropLast_concat_getLast this]
theorem ends {s x:Int} {p:List Int} (h:run (ex1 t n) s p=some x):(s::p).getLast? = some x:=by
 rcases List.eq_nil_or_concat p with rfl | ⟨q,j,rfl⟩
 ·exact h
 ·rw [List.concat_eq_append,qj] at h
  cases hy:run (ex1 t n) s q with
  | none=>rw [hy] at h; cases h
  | some y =>
   rw [hy] at h
   have:=(uE.1 h).2
   rw [this,List.concat_eq_append,← List.cons_append,List.getLast?_concat]
theorem lc (s:Int) (p:List Int):(fJ s p).length=p.length:=by simp [fJ]
def Nl (t:Int→Int→Bool) (s:Int) (n:Nat) (seen:Int→Prop) (lv:List (Int×List Int)) (m0:Nat) (a:Nat) (j:Int) (m:List (Int×Int)) (nl:List Int):Prop :=
 ∃ done nx,Did (ex1 t n) lv a j done∧Cq seen done nx∧nl=nx.map (·.1)∧(∀ y,iR m y=true↔seen y∨∃ z ∈ nx,z.1=y)∧(∀ e ∈ lv,TrN m e.1 (fJ s e.2))∧(∀ z ∈ nx,TrN m z.1 (fJ s z.2.1))∧Keys n m∧m.length=m0 + nl.length
structure AtB (t:Int→Int→Bool) (s e:Int) (n k:Nat) (m:List (Int×Int)) (lv:List (Int×List Int)) (seen:Int→Prop):Prop where
 lev:Lv (ex1 t n) s k seen lv
 no:∀ p,p.length < k → ¬ Clo (ex1 t n) (· = e) s p
 has:∀ y,iR m y=true↔seen y
 tr:∀ z ∈ lv,TrN m z.1 (fJ s z.2)
 keys:Keys n m
def Kk (t:Int→Int→Bool) (s e:Int) (n:Nat) (r:List Int×Bool):Prop :=
 (r=([],true)∧∀ p,¬ Clo (ex1 t n) (· = e) s p)∨∃ p,r=(fJ s p,false)∧zU (ex1 t n) (· = e) s p∧p.length < n
theorem Ql {x:Int} {i t':Int} (h:ex1 t n x i=some t'):0≤i:=(uE.1 h).1.1
theorem SY {x:Int} {i t':Int} (h:ex1 t n x i=some t'):i < n:=(uE.1 h).1.2.1
theorem Oq {net:dF} (hN:Hw net n t l) {s e:Int} (hs:0≤s∧s < n):Tri (aV net s e) (Kk t s e n):=by
 have hle:=hN.le;unfold aV;have m0:fC ([]:List (Int×Int)) s (-1)=[(s,-1)]:=rfl
 rw [m0]
 have start:AtB t s e n 0 [(s,-1)] [(s,[])] (· = s):=by
  refine ⟨⟨?_,by simp,fun y=>⟨?_,?_⟩,fun p y hp hy => ?_⟩,fun p h=>absurd h (Nat.not_lt_zero _),fun y => ?_,fun z hz => ?_,⟨by simp,by simpa using hs⟩⟩
  ·intro z hz
   simp only [List.mem_singleton] at hz
   subst hz;exact ⟨rfl,rfl⟩
  ·rintro rfl;exact ⟨[],Nat.le_refl _,rfl⟩
  ·rintro ⟨p,hp,hr⟩;obtain rfl:p=[]:=List.eq_nil_of_length_eq_zero (by omega);exact (Option.some.inj hr).symm
  ·right
   obtain rfl:p=[]:=List.eq_nil_of_length_eq_zero hp;exact ⟨_,List.mem_singleton.2 rfl,Option.some.inj hy,zT _⟩
  ·simp [iR]
   exact eq_comm
  ·simp only [List.mem_singleton] at hz
   subst hz;exact .root (by simp [iR]) (by simp [mat])
 refine oM (fun q:List (Int×Int)×List Int×Bool=>∃ k lv seen,AtB t s e n k q.1 lv seen∧q.2.1=lv.map (·.1)∧(lv=[]∨k < q.1.length)) (fun q=>2 * (n + 1 - q.1.length) + (if q.2.1=[] then 0 else 1)) ⟨0,_,_,start,rfl,.inr (by simp)⟩ ?_;rintro ⟨m,level,b⟩ ⟨k,lv,seen,hA,hlv,hkm⟩
 dsimp only at hA hlv hkm
 subst hlv;have hmlen:=hA.keys.len;unfold tH
 dsimp only
 refine eP (fun hq => ?_) (fun hq => ?_)
 ·have hq:0 < lv.length:=by simpa using hq
  have hkm':k < m.length:=by
   rcases hkm with hkm | hkm
   ·rw [hkm] at hq; simp at hq
   ·exact hkm
  refine oM (fun q:List (Int×Int)×List Int×Bool×Int=>∃ a:Nat,q.2.2.2=(a:Int)∧a≤lv.length∧Nl t s n seen lv m.length a 0 q.1 q.2.1∧∀ (b:Nat) y p,b < a→lv[b]? = some (y,p) → ¬ y=e) (fun q=>lv.length - q.2.2.2.toNat)
   ⟨0,rfl,Nat.zero_le _,⟨[],[],Did.start _ _ (fun x i t h=>Ql h),Cq.nil _,rfl,fun y=>by rw [hA.has]; simp,hA.tr,by simp,hA.keys,by simp⟩,fun b y p hb=>absurd hb (Nat.not_lt_zero _)⟩ ?_
  rintro ⟨m1,nl,b1,a1⟩ ⟨a,e1,ha,hS,hcl⟩
  dsimp only at e1 hS
  subst e1;unfold tF
  dsimp only
  refine eP (fun hk => ?_) (fun hk => ?_)
  ·have hk:a < lv.length:=by simpa using hk
   have hx:lv[a]? = some (lv[a].1,lv[a].2):=List.getElem?_eq_getElem hk;have hi:idx (lv.map (·.1)) (a:Int)=lv[a].1:=by
    rw [lQ,List.getD_eq_getElem?_getD,List.getElem?_map,List.getElem?_eq_getElem hk]
    rfl
   obtain ⟨hrun,hpl⟩:=hA.lev.ok _ (List.mem_of_getElem? hx)
   dsimp only at hrun hpl
   refine ah (by simp; omega) ?_
   rw [hi]
   have hlvlen:lv.length≤n:=by
    have hmem:∀ z ∈ lv,0≤z.1∧z.1 < (n:Int):=by
     intro z hz;have h1:=hA.tr z hz;have h2:iR m z.1=true:=by
      generalize fJ s z.2=q at h1;cases h1 with
      | root h _=>exact h
      | back h _ _=>exact h
     exact hA.keys.node z.1 (Kj.1 h2)
    have:=xW n (lv.map fun z=>z.1.toNat) ?_ ?_
    ·simpa using this
    ·unfold List.Nodup
     rw [List.pairwise_map]
     refine hA.lev.sorted.imp_of_mem fun {x y} hx hy h1 e2 => ?_;have a1:=hmem x hx;have a2:=hmem y hy;have e3:x.1=y.1:=by omega
     have t1:=hA.tr x hx;have t2:=hA.tr y hy
     rw [e3] at t1
     have uniq:∀ {x:Int} {p q:List Int},TrN m x p→TrN m x q→p=q:=by
      intro x p q h1
      induction h1 generalizing q with
      | root h h0 =>
       intro h2;cases h2 with
       | root=>rfl
       | back _ h3=>omega
      | back h h0 ht ih =>
       intro h2;cases h2 with
       | root _ h3=>omega
       | back _ _ ht'=>rw [ih ht']
     have e4:=uniq t1 t2;have r1:=ends (hA.lev.ok x hx).1;have r2:=ends (hA.lev.ok y hy).1;have:s::x.2=s::y.2:=by
      have n1:s::x.2≠[]:=by simp
      have n2:s::y.2≠[]:=by simp
      rw [← List.dropLast_concat_getLast n1,← List.dropLast_concat_getLast n2]
      rw [List.getLast?_eq_some_getLast n1] at r1
      rw [List.getLast?_eq_some_getLast n2] at r2
      rw [Option.some.inj r1,Option.some.inj r2,e3]
      unfold fJ at e4
      rw [e4]
     rw [(List.cons.inj this).2] at h1
     exact LJ h1
    ·intro v hv;obtain ⟨z,hz,rfl⟩:=List.mem_map.1 hv;have:=hmem z hz
     omega
   refine eP (fun hc => ?_) (fun hc => ?_)
   ·have hc:lv[a].1=e:=by simpa using hc
    obtain ⟨_,_,_,_,_,_,htr,_⟩:=id hS;have h4:=htr _ (List.mem_of_getElem? hx);have hbl:=lc s lv[a].2
    rw [SX h4 (by dsimp only; omega) [] (by dsimp only; simp; omega)]
    refine ag (.inr ⟨lv[a].2,by simp,hA.lev.first hA.no hx hc hcl,by omega⟩)
   ·have hc:¬ lv[a].1=e:=by simpa using hc
    have hnode:0≤lv[a].1∧lv[a].1 < n:=by
     rcases List.eq_nil_or_concat lv[a].2 with h1 | ⟨q,j,h1⟩
     ·rw [h1] at hrun
      have:=Option.some.inj hrun
      omega
     ·rw [h1,List.concat_eq_append,qj] at hrun
      cases hy:run (ex1 t n) s q with
      | none=>rw [hy] at hrun; cases hrun
      | some y =>
       rw [hy] at hrun
       obtain ⟨h2,h3⟩:=uE.1 hrun
       rw [h3]
       exact ⟨h2.1,h2.2.1⟩
    have hrow:=hN.row lv[a].1 hnode.1 hnode.2;have hnl:=hN.len;refine oM (fun q:List (Int×Int)×List Int×Bool×Int=>0≤q.2.2.2∧q.2.2.2≤n∧Nl t s n seen lv m.length a q.2.2.2 q.1 q.2.1) (fun q=>((n:Int) - q.2.2.2).toNat) ⟨Int.le_refl _,by dsimp only; omega,hS⟩ ?_
    rintro ⟨m2,a3,b2,j⟩ ⟨h1,h2,done,nx,g1,g2,g3,g4,g5,g6,g7,g8⟩
    dsimp only at h1 h2 g1 g3 g4 g5 g6 g7 g8
    have a5:=g7.len;unfold tC
    dsimp only
    rw [hN.N]
    refine eP (fun hj => ?_) (fun hj => ?_)
    ·have hj:j < n:=by simpa using hj
     have hw:w64 (j + 1)=j + 1:=bA (by omega) (by omega);have htg:=hN.tg lv[a].1 j hnode.1 hnode.2 h1 hj;have skip:(ex1 t n lv[a].1 j=none∨iR m2 j=true)→Tri (jH (lv.map (·.1)) (a:Int) m2 a3 b2 j false) (Rnd (fun q:List (Int×Int)×List Int×Bool×Int=>0≤q.2.2.2∧q.2.2.2≤n∧Nl t s n seen lv m.length a q.2.2.2 q.1 q.2.1) (fun q=>((n:Int) - q.2.2.2).toNat)
       (Rnd (fun q:List (Int×Int)×List Int×Bool×Int=>∃ a:Nat,q.2.2.2=(a:Int)∧a≤lv.length∧Nl t s n seen lv m.length a 0 q.1 q.2.1∧∀ (b:Nat) y p,b < a→lv[b]? = some (y,p) → ¬ y=e) (fun q=>lv.length - q.2.2.2.toNat)
        (Rnd (fun q:List (Int×Int)×List Int×Bool=>∃ k lv seen,AtB t s e n k q.1 lv seen∧q.2.1=lv.map (·.1)∧(lv=[]∨k < q.1.length)) (fun q=>2 * (n + 1 - q.1.length) + (if q.2.1=[] then 0 else 1)) (Kk t s e n) (m,lv.map (·.1),b)) (m1,nl,b1,(a:Int))) (m2,a3,b2,j)):=by
      intro h;unfold jH ma
      rw [cond_false,hw]
      refine ag ⟨⟨by dsimp only; omega,by dsimp only; omega,?_⟩,by dsimp only; omega⟩
      dsimp only
      cases hex:ex1 t n lv[a].1 j with
      | none=>exact ⟨done,nx,g1.skip hx hex,g2,g3,g4,g5,g6,g7,g8⟩
      | some y =>
       obtain ⟨_,rfl⟩:=uE.1 hex;rcases h with h | h
       ·rw [h] at hex; cases hex
       ·exact ⟨_,nx,g1.one hx hex,g2.old (g1.lt hA.lev hx) ((g4 y).1 h),g3,g4,g5,g6,g7,g8⟩
     refine eP (fun hm => ?_) (fun hm=>skip (.inr (by simpa using hm)));have hm:iR m2 j=false:=by simpa using hm
     rw [hi]
     refine ah (by omega) (ah (by omega) ?_);cases htt:t lv[a].1 j with
     | false =>
      rw [htt] at htg
      have:(idx (idx net.links lv[a].1) j).tight=0:=by simpa using htg
      rw [this]
      refine skip (.inl ?_);unfold ex1
      rw [if_neg (by simp [htt])]
     | true =>
      have hex:ex1 t n lv[a].1 j=some j:=uE.2 ⟨⟨h1,hj,htt⟩,rfl⟩
      rw [htt] at htg
      have hne:¬ (idx (idx net.links lv[a].1) j).tight=0:=by simpa using htg
      cases hpos:decide ((idx (idx net.links lv[a].1) j).tight > 0) with
      | false=>exact skip (.inr (by
        have:¬ (idx (idx net.links lv[a].1) j).tight > 0:=by simpa using hpos
        exact absurd (hN.tpos lv[a].1 j hnode.1 hnode.2 h1 hj) (by omega)))
      | true =>
       unfold jH ma
       rw [cond_true,hw,hi]
       have hn:¬ (seen j∨∃ z ∈ nx,z.1=j):=fun h=>by rw [(g4 j).2 h] at hm; cases hm
       obtain ⟨k1,k2⟩:=g7.put (v:=lv[a].1) hm ⟨h1,hj⟩;refine ah (by omega) (ag ⟨⟨by dsimp only; omega,by dsimp only; omega,?_⟩,by dsimp only; omega⟩)
       dsimp only
       have htr:TrN (fC m2 j lv[a].1) j (fJ s (lv[a].2++[j])):=by
        have e5:mat (fC m2 j lv[a].1) j=lv[a].1:=by rw [qA,if_pos rfl]
        rw [IW (ends hrun)]
        have h9:TrN (fC m2 j lv[a].1) j (fJ s lv[a].2++[mat (fC m2 j lv[a].1) j]) := .back (oO.2 (.inl rfl)) (by rw [e5]; exact hnode.1) (by rw [e5]; exact (g5 _ (List.mem_of_getElem? hx)).put hm)
        rw [e5] at h9
        exact h9
       refine ⟨done++[⟨lv[a].1,lv[a].2,j,j⟩],nx++[(j,(⟨lv[a].1,lv[a].2,j,j⟩:wO Int).q,lv[a].1)],g1.one hx hex,g2.new (g1.lt hA.lev hx) (fun h=>hn (.inl h)) (fun z hz e=>hn (.inr ⟨z,hz,e⟩)),by simp [g3],fun u => ?_,fun z hz=>(g5 z hz).put hm,fun z hz => ?_,k1,by rw [k2,g8]; simp; omega⟩
       ·rw [oO,g4 u]
        constructor
        ·rintro (rfl | h | ⟨z,hz,e⟩)
         ·exact .inr ⟨_,List.mem_append_right _ (List.mem_singleton.2 rfl),rfl⟩
         ·exact .inl h
         ·exact .inr ⟨z,List.mem_append_left _ hz,e⟩
        ·rintro (h | ⟨z,hz,e⟩)
         ·exact .inr (.inl h)
         ·rcases List.mem_append.1 hz with hz | hz
          ·exact .inr (.inr ⟨z,hz,e⟩)
          ·simp only [List.mem_singleton] at hz
           subst hz;exact .inl e.symm
       ·rcases List.mem_append.1 hz with hz | hz
        ·exact (g6 z hz).put hm
        ·simp only [List.mem_singleton] at hz
         subst hz;exact htr
    ·have hj:¬ j < n:=by simpa using hj
     obtain rfl:j=n:=by omega
     refine ax (ag ?_)
     rw [bA (by omega) (by omega)]
     refine ⟨⟨a + 1,rfl,hk,⟨done,nx,g1.next (fun x i t h=>Ql h) (fun x i t h=>SY h),g2,g3,g4,g5,g6,g7,g8⟩,fun b y p hb hy => ?_⟩,by dsimp only; omega⟩
     rcases Nat.lt_or_ge b a with h | h
     ·exact hcl b y p h hy
     ·obtain rfl:b=a:=by omega
      rw [hx] at hy
      cases hy;exact hc
  ·have hk:¬ a < lv.length:=by simpa using hk
   obtain rfl:a=lv.length:=by omega
   obtain ⟨done,nx,g1,g2,g3,g4,g5,g6,g7,g8⟩:=hS;refine ax (ag ⟨⟨k + 1,_,_,⟨hA.lev.next g1 g2,hA.lev.noclo hA.no (fun b y p hb=>hcl b y p (List.getElem?_eq_some_iff.1 hb).1 hb),g4,fun z hz => ?_,g7⟩,by dsimp only; rw [g3,List.map_map]; rfl,?_⟩,?_⟩)
   ·obtain ⟨z',hz',rfl⟩:=List.mem_map.1 hz;exact g6 z' hz'
   ·dsimp only
    rcases Nat.eq_zero_or_pos nx.length with h | h
    ·exact .inl (by rw [List.eq_nil_of_length_eq_zero h]; rfl)
    ·refine .inr ?_
     rw [g8,g3,List.length_map]
     rcases hkm with hkm | hkm
     ·rw [hkm] at hq; simp at hq
     ·omega
   ·dsimp only
    have a4:¬ lv.map (·.1)=[]:=by
     intro h;have:(lv.map (·.1)).length=0:=by rw [h]; rfl
     simp at this
     rw [this] at hq
     simp at hq
    have:=g7.len
    rw [if_neg a4]
    split
    ·omega
    ·rename_i h
     have:0 < nl.length:=List.length_pos_iff.2 h
     omega
 ·have hq:¬ 0 < lv.length:=by simpa using hq
  obtain rfl:lv=[]:=List.eq_nil_of_length_eq_zero (by omega);exact ax (ag (.inl ⟨rfl,hA.lev.never hA.no⟩))
end Go.Proofs.YtfpeabnehpclnaaGreatT
namespace Go.Proofs.YtfpeabnehpclnaaGreatT
open Go Go.Proofs Go.Proofs.YtfpeabnehpclnaaGreatE
set_option linter.unusedVariables false
set_option linter.unusedSimpArgs false
set_option linter.unusedSectionVars false
variable {t l:Int→Int→Bool} {n k:Nat} {e:Int}
abbrev Ot (t:Int→Int→Bool) (e:Int) (n:Nat) (i:Int) (p:List Int):Prop:=Clo (ex1 t n) (· = e) i p
end Go.Proofs.YtfpeabnehpclnaaGreatT
namespace Go.Proofs.YtfpeabnehpclnaaGreatT
open Go Go.Proofs Go.Proofs.YtfpeabnehpclnaaGreatE
set_option linter.unusedVariables false
set_option linter.unusedSimpArgs false
set_option linter.unusedSectionVars false
variable {t l:Int→Int→Bool} {n:Nat}
structure Ef (t l:Int→Int→Bool) (n:Nat) (c:List Int):Prop where
 ne:c≠[]
 node:∀ i,0≤at3 c i∧at3 c i < n
 one:l (at3 c 0) (at3 c 1)=true
 rest:∀ i,0 < i→i < c.length→t (at3 c i) (at3 c (i + 1))=true
theorem HZ {b:Int}:∀ {p:List Int} {x:Int},run (ex1 t n) b p=some x→∀ i,i < p.length→t (idx (b::p) (i:Int)) (idx (b::p) ((i + 1:Nat):Int))=true∧0≤idx (b::p) ((i + 1:Nat):Int)∧idx (b::p) ((i + 1:Nat):Int) < n
 | [],x,h,i,hi=>by simp at hi
 | j::p,x,h,i,hi=>by
  simp only [run] at h
  cases hy:ex1 t n b j with
  | none=>rw [hy] at h; cases h
  | some y =>
   rw [hy] at h
   obtain ⟨h1,rfl⟩:=uE.1 hy;have h:run (ex1 t n) y p=some x:=h;cases i with
   | zero=>exact ⟨h1.2.2,h1.1,h1.2.1⟩
   | succ i=>exact HZ h i (by simpa using hi)
theorem Kl {c:List Int} {i:Nat} (h:i < c.length):idx c (i:Int)=c[i]:=by rw [lQ,List.getD_eq_getElem?_getD,List.getElem?_eq_getElem h]; rfl
theorem Km {a b:Int} {p:List Int} (h:run (ex1 t n) b p=some a):∀ i,i≤p.length→at3 (a::fJ b p) (i + 1)=idx (b::p) (i:Int):=by
 intro i hi;have hl:(a::fJ b p).length=p.length + 1:=by simp [lc]
 rcases Nat.lt_or_ge i p.length with h1 | h1
 ·rw [yI (by omega),Kl (by omega),Kl (by simp; omega),List.getElem_cons_succ]
  unfold fJ
  rw [List.getElem_dropLast]
 ·obtain rfl:i=p.length:=by omega
  have h2:=vz (a::fJ b p) 0
  rw [hl,Nat.add_zero] at h2
  rw [h2]
  have h3:=ends h
  rw [List.getLast?_eq_getElem?,lQ,List.getD_eq_getElem?_getD] at *
  rw [show (b::p).length - 1=p.length by simp] at h3
  rw [h3]
  rfl
theorem Qm {a b:Int} {p:List Int} (ha:0≤a∧a < n) (hb:0≤b∧b < n) (hl:l a b=true) (h:run (ex1 t n) b p=some a):Ef t l n (a::fJ b p):=by
 have hlen:(a::fJ b p).length=p.length + 1:=by simp [lc]
 have hn:=Km h;have hc:=HZ h;have node:∀ i,i≤p.length→0≤idx (b::p) (i:Int)∧idx (b::p) (i:Int) < n:=by
  intro i hi;cases i with
  | zero=>exact hb
  | succ i=>exact (hc i (by omega)).2
 refine ⟨by simp,fun i => ?_,?_,fun i h0 h1 => ?_⟩
 ·have hm:=Nat.mod_lt i (show 0 < (a::fJ b p).length by simp);have e:at3 (a::fJ b p) i=at3 (a::fJ b p) (i % (a::fJ b p).length):=by unfold at3; rw [Nat.mod_mod]
  rw [e]
  generalize i % (a::fJ b p).length=j at hm;cases j with
  | zero=>exact ha
  | succ j=>rw [hn j (by omega)]; exact node j (by omega)
 ·rw [hn 0 (Nat.zero_le _)]
  exact hl
 ·obtain ⟨j,rfl⟩:∃ j,i=j + 1:=⟨i - 1,by omega⟩
  rw [hn j (by omega),hn (j + 1) (by omega)]
  exact (hc j (by omega)).1
theorem Kn {c:List Int} (h:Ef t l n c):∃ p,Ot t (at3 c 0) n (at3 c 1) p∧p.length + 1=c.length:=by
 have hpos:0 < c.length:=List.length_pos_iff.2 h.ne;have hw:at3 c c.length=at3 c 0:=vz c 0;have go:∀ m,m < c.length→∃ p,Ot t (at3 c 0) n (at3 c (c.length - m)) p∧p.length=m:=by
  intro m
  induction m with
  | zero=>intro _; exact ⟨[],Nj.2 (by show at3 c (c.length - 0)=at3 c 0; rw [Nat.sub_zero,hw]),rfl⟩
  | succ m ih =>
   intro hm;obtain ⟨p,hp,hl⟩:=ih (by omega);have h1:=h.rest (c.length - (m + 1)) (by omega) (by omega)
   rw [show c.length - (m + 1) + 1=c.length - m by omega] at h1
   have h2:=h.node (c.length - m);exact ⟨_::p,Qh.2 ⟨_,uE.2 ⟨⟨h2.1,h2.2,h1⟩,rfl⟩,hp⟩,by simp [hl]⟩
 obtain ⟨p,hp,hl⟩:=go (c.length - 1) (by omega)
 rw [show c.length - (c.length - 1)=1 by omega] at hp
 exact ⟨p,hp,by omega⟩
def FO (i k i' k':Int):Prop:=i' < i∨(i'=i∧k' < k)
def nW (t l:Int→Int→Bool) (n:Nat) (i k:Int) (best:List Int):Prop :=
 (best=[]∧∀ i' k':Int,0≤i'→i' < n→0≤k'→k' < n→FO i k i' k'→l i' k'=true→∀ p,¬ Ot t i' n k' p) ∨
 ∃ (a b:Int) (p:List Int),best=a::fJ b p∧(0≤a∧a < n)∧(0≤b∧b < n)∧l a b=true∧zU (ex1 t n) (· = a) b p∧p.length < n∧FO i k a b ∧
  ∀ i' k':Int,0≤i'→i' < n→0≤k'→k' < n→FO i k i' k'→l i' k'=true→∀ p',Ot t i' n k' p'→p.length≤p'.length∧(p'.length=p.length→a < i'∨(a=i'∧b≤k'))
theorem nW.mono {i k i2 k2:Int} {best:List Int} (h:nW t l n i k best) (h1:∀ i' k':Int,0≤i'→i' < n→0≤k'→k' < n→(FO i2 k2 i' k'↔FO i k i' k')):nW t l n i2 k2 best:=by
 rcases h with ⟨rfl,h2⟩ | ⟨a,b,p,rfl,ha,hb,hl,hp,hpl,hd,h2⟩
 ·exact .inl ⟨rfl,fun i' k' g1 g2 g3 g4 g5=>h2 i' k' g1 g2 g3 g4 ((h1 i' k' g1 g2 g3 g4).1 g5)⟩
 ·exact .inr ⟨a,b,p,rfl,ha,hb,hl,hp,hpl,(h1 a b ha.1 ha.2 hb.1 hb.2).2 hd,fun i' k' g1 g2 g3 g4 g5=>h2 i' k' g1 g2 g3 g4 ((h1 i' k' g1 g2 g3 g4).1 g5)⟩
theorem tO {i k i' k':Int}:FO i (k + 1) i' k'↔FO i k i' k'∨(i'=i∧k'=k):=by unfold FO; omega
theorem nW.skip {i k:Int} {best:List Int} (h:nW t l n i k best) (hn:l i k=true→∀ p,¬ Ot t i n k p):nW t l n i (k + 1) best:=by
 rcases h with ⟨rfl,h2⟩ | ⟨a,b,p,rfl,ha,hb,hl,hp,hpl,hd,h2⟩
 ·refine .inl ⟨rfl,fun i' k' g1 g2 g3 g4 g5 => ?_⟩;rcases tO.1 g5 with g5 | ⟨rfl,rfl⟩
  ·exact h2 i' k' g1 g2 g3 g4 g5
  ·exact hn
 ·refine .inr ⟨a,b,p,rfl,ha,hb,hl,hp,hpl,tO.2 (.inl hd),fun i' k' g1 g2 g3 g4 g5 g6 p' hp' => ?_⟩;rcases tO.1 g5 with g5 | ⟨rfl,rfl⟩
  ·exact h2 i' k' g1 g2 g3 g4 g5 g6 p' hp'
  ·exact (hn g6 p' hp').elim
theorem nW.keep {i k:Int} {best:List Int} (h:nW t l n i k best) (hne:best≠[]) (hn:l i k=true→∀ p,Ot t i n k p→best.length≤p.length + 1):nW t l n i (k + 1) best:=by
 rcases h with ⟨rfl,h2⟩ | ⟨a,b,p,rfl,ha,hb,hl,hp,hpl,hd,h2⟩
 ·exact absurd rfl hne
 ·refine .inr ⟨a,b,p,rfl,ha,hb,hl,hp,hpl,tO.2 (.inl hd),fun i' k' g1 g2 g3 g4 g5 g6 p' hp' => ?_⟩;rcases tO.1 g5 with g5 | ⟨rfl,rfl⟩
  ·exact h2 i' k' g1 g2 g3 g4 g5 g6 p' hp'
  ·have:=hn g6 p' hp'
   simp only [List.length_cons,lc] at this
   unfold FO at hd;exact ⟨by omega,fun _=>by omega⟩
theorem nW.better {i k:Int} {best:List Int} (h:nW t l n i k best) (hi:0≤i∧i < n) (hk:0≤k∧k < n) (a1:l i k=true) {p:List Int} (hp:zU (ex1 t n) (· = i) k p) (hpl:p.length < n) (hb:best=[]∨p.length + 1 < best.length):nW t l n i (k + 1) (i::fJ k p):=by
 refine .inr ⟨i,k,p,rfl,hi,hk,a1,hp,hpl,tO.2 (.inr ⟨rfl,rfl⟩),fun i' k' g1 g2 g3 g4 g5 g6 p' hp' => ?_⟩;rcases tO.1 g5 with g5 | ⟨rfl,rfl⟩
 ·rcases h with ⟨rfl,h2⟩ | ⟨a,b,q,rfl,_,_,_,_,_,_,h2⟩
  ·exact (h2 i' k' g1 g2 g3 g4 g5 g6 p' hp').elim
  ·have:=(h2 i' k' g1 g2 g3 g4 g5 g6 p' hp').1;rcases hb with hb | hb
   ·cases hb
   ·simp only [List.length_cons,lc] at hb
    omega
 ·exact ⟨(hp.min p' hp').1,fun _ => .inr ⟨rfl,Int.le_refl _⟩⟩
theorem nW.loop {i k:Int} {best:List Int} (h:nW t l n i k best):(best=[]∨Ef t l n best)∧best.length≤n:=by
 rcases h with ⟨rfl,_⟩ | ⟨a,b,p,rfl,ha,hb,hl,hp,hpl,_⟩
 ·exact ⟨.inl rfl,Nat.zero_le _⟩
 ·obtain ⟨x,hx,rfl⟩:=hp.clo;refine ⟨.inr (Qm ha hb hl hx),by simp only [List.length_cons,lc]; omega⟩
variable {g:cz} {d r:Int}
def Ia (g:cz) (d r:Int) (i:Nat) (a b:Int):Edge:=if i=0 then idx g.Edges (fe g r g.Edges.length a b - 1) else idx g.Edges (fe g d g.Edges.length a b - 1)
def yJ (g:cz) (d r:Int) (c:List Int):List Edge:=(List.range c.length).map fun i=>Ia g d r i (at3 c i) (at3 c (i + 1))
theorem Ko (hg:Good g) {net:dF} (h:net.g=g∧ze g d r g.Edges.length net.links) {c:List Int} (hc:c=[]∨Ef (dY g d) (dY g r) g.N.toNat c) (hl:c.length≤1000):dB net c=some (yJ g d r c):=by
 have h0:=hg.n0;have h1:=hg.n1;have hm:=hg.m
 rw [← eQ]
 unfold dB;refine vC c.length (fun k e=>e=(List.range k).map fun i=>Ia g d r i (at3 c i) (at3 c (i + 1))) rfl ?_;rintro x e hx rfl;unfold iH
 dsimp only
 refine eP (fun e => ?_) (fun e => ?_)
 ·have e:x < c.length:=by simpa using e
  rcases hc with rfl | hL
  ·simp at e
  ·have n1:=hL.node x;have n2:=hL.node (x + 1);have hlen:=h.2.len;have hrow:=h.2.row (at3 c x) n1.1 (by omega)
   rw [← yI e,Kh e (by omega)]
   refine ah (by omega) (ah (by omega) (ah (by omega) (ah (by rw [FN e (by omega)]; have:=Nat.mod_lt (x + 1) (show 0 < c.length by omega); omega) (ah (by omega) ?_))))
   rw [h.2.at_ _ _ n1.1 (by omega) n2.1 (by omega),h.1]
   have b1:=Ke g d (at3 c x) (at3 c (x + 1)) g.Edges.length;have b2:=Ke g r (at3 c x) (at3 c (x + 1)) g.Edges.length;have hp:qa ⟨fe g d g.Edges.length (at3 c x) (at3 c (x + 1)),fe g r g.Edges.length (at3 c x) (at3 c (x + 1))⟩ (x:Int)=some (if x=0 then fe g r g.Edges.length (at3 c x) (at3 c (x + 1)) else fe g d g.Edges.length (at3 c x) (at3 c (x + 1))):=by
    unfold qa
    dsimp only
    by_cases e:x=0
    ·subst e; simp
    ·rw [show ((x:Int) == 0)=false by simpa using e,cond_false,if_neg e]
   rw [hp]
   refine bX ?_;have hpos:1≤(if x=0 then fe g r g.Edges.length (at3 c x) (at3 c (x + 1)) else fe g d g.Edges.length (at3 c x) (at3 c (x + 1))):=by
    split
    ·rename_i e
     subst e;have:dY g r (at3 c 0) (at3 c (0 + 1))=true:=hL.one;unfold dY at this
     rw [decide_eq_true_iff] at this
     omega
    ·rename_i e2
     have:=hL.rest x (by omega) e;unfold dY at this
     rw [decide_eq_true_iff] at this
     omega
   have hle:(if x=0 then fe g r g.Edges.length (at3 c x) (at3 c (x + 1)) else fe g d g.Edges.length (at3 c x) (at3 c (x + 1)))≤g.Edges.length:=by split <;> omega
   generalize hv:(if x=0 then fe g r g.Edges.length (at3 c x) (at3 c (x + 1)) else fe g d g.Edges.length (at3 c x) (at3 c (x + 1)))=v at *;have a1:idx g.Edges (v - 1)=Ia g d r x (at3 c x) (at3 c (x + 1)):=by
    unfold Ia
    rw [← hv]
    split <;> rfl
   rw [bA (x:=v - 1) (by omega) (by omega),a1,bA (by omega) (by omega),Ki (fun i=>Ia g d r i (at3 c i) (at3 c (i + 1)))]
   refine ah (by omega) (ah (by simp; omega) (ag ⟨by omega,e,rfl⟩))
 ·have e:¬ x < c.length:=by simpa using e
  obtain rfl:x=c.length:=by omega
  exact ax (ag rfl)
theorem Dy (hg:Good g) (d r:Int):Tri (cu g d r) (fun res=>∃ best,nW (dY g d) (dY g r) g.N.toNat g.N.toNat 0 best∧res=(yJ g d r best,0)):=by
 have h0:=hg.n0;have h1:=hg.n1;unfold cu
 rw [FJ hg]
 refine bX ?_
 simp only [bne_self_eq_false,cond_false]
 refine dN (Ee hg d r) ?_;intro net hnet;have hN:=Qk hg hnet;refine oM (fun q:List Int×Bool×Int=>0≤q.2.2∧q.2.2≤g.N∧nW (dY g d) (dY g r) g.N.toNat q.2.2 0 q.1∧(q.2.1=true↔q.1=[])) (fun q=>(g.N - q.2.2).toNat) ⟨Int.le_refl _,h0,.inl ⟨rfl,fun i' k' g1 g2 g3 g4 g5=>by unfold FO at g5; dsimp only at g5; omega⟩,by simp⟩ ?_
 rintro ⟨best0,a1,i⟩ ⟨h2,h3,hS,hnb⟩
 dsimp only at h2 h3 hS hnb
 unfold vR
 dsimp only
 refine eP (fun e => ?_) (fun e => ?_)
 ·have e:i < g.N:=by simpa using e
  refine oM (fun q:List Int×Bool×Int=>0≤q.2.2∧q.2.2≤g.N∧nW (dY g d) (dY g r) g.N.toNat i q.2.2 q.1∧(q.2.1=true↔q.1=[])) (fun q=>(g.N - q.2.2).toNat) ⟨Int.le_refl _,h0,hS,hnb⟩ ?_;rintro ⟨best,nb,k⟩ ⟨h4,h5,hS,hnb⟩
  dsimp only at h4 h5 hS hnb
  obtain ⟨hloop,hblen⟩:=hS.loop;unfold vQ
  dsimp only
  refine eP (fun ek => ?_) (fun ek => ?_)
  ·have ek:k < g.N:=by simpa using ek
   have hw:w64 (k + 1)=k + 1:=bA (by omega) (by omega);have hrow:=hN.row i h2 (by omega);refine ah (by rw [hN.len]; omega) (ah (by omega) ?_)
   rw [hN.ls i k h2 (by omega) h4 (by omega)]
   have keep:nW (dY g d) (dY g r) g.N.toNat i (k + 1) best→Tri (jL k best nb) (Rnd (fun q:List Int×Bool×Int=>0≤q.2.2∧q.2.2≤g.N∧nW (dY g d) (dY g r) g.N.toNat i q.2.2 q.1∧(q.2.1=true↔q.1=[])) (fun q=>(g.N - q.2.2).toNat)
     (Rnd (fun q:List Int×Bool×Int=>0≤q.2.2∧q.2.2≤g.N∧nW (dY g d) (dY g r) g.N.toNat q.2.2 0 q.1∧(q.2.1=true↔q.1=[])) (fun q=>(g.N - q.2.2).toNat) (fun res:List Edge×Int=>∃ best,nW (dY g d) (dY g r) g.N.toNat g.N.toNat 0 best∧res=(yJ g d r best,0)) (best0,a1,i)) (best,nb,k)):=by
    intro h;unfold jL
    rw [hw]
    exact ag ⟨⟨by dsimp only; omega,by dsimp only; omega,h,hnb⟩,by dsimp only; omega⟩
   cases hlo:dY g r i k with
   | false =>
    rw [Bool.not_false,cond_true]
    exact keep (hS.skip fun h=>by rw [hlo] at h; cases h)
   | true =>
    rw [Bool.not_true,cond_false]
    refine dN (Oq hN (e:=i) ⟨h4,by omega⟩) ?_;rintro res (⟨rfl,hno⟩ | ⟨p,rfl,hp,hpl⟩)
    ·simp only [Bool.not_true,cond_false]
     unfold jc
     rw [cond_false]
     exact keep (hS.skip fun _=>hno)
    ·simp only [Bool.not_false,cond_true]
     have hbp:=lc k p;have take:(best=[]∨p.length + 1 < best.length)→Tri (jc i best nb k (fJ k p,false) true) (Rnd (fun q:List Int×Bool×Int=>0≤q.2.2∧q.2.2≤g.N∧nW (dY g d) (dY g r) g.N.toNat i q.2.2 q.1∧(q.2.1=true↔q.1=[])) (fun q=>(g.N - q.2.2).toNat)
       (Rnd (fun q:List Int×Bool×Int=>0≤q.2.2∧q.2.2≤g.N∧nW (dY g d) (dY g r) g.N.toNat q.2.2 0 q.1∧(q.2.1=true↔q.1=[])) (fun q=>(g.N - q.2.2).toNat) (fun res:List Edge×Int=>∃ best,nW (dY g d) (dY g r) g.N.toNat g.N.toNat 0 best∧res=(yJ g d r best,0)) (best0,a1,i)) (best,nb,k)):=by
      intro h;unfold jc jL
      rw [cond_true,hw]
      refine ah (by first | omega | (dsimp only; omega)) (ag ⟨⟨by dsimp only; omega,by dsimp only; omega,hS.better ⟨h2,by omega⟩ ⟨h4,by omega⟩ hlo hp hpl h,by simp⟩,by dsimp only; omega⟩)
     cases nb with
     | true=>rw [cond_true]; exact take (.inl (hnb.1 rfl))
     | false =>
      rw [cond_false]
      have hne:best≠[]:=fun h=>by have:=hnb.2 h; cases this
      rw [hbp,bA (by omega) (by omega)]
      cases hc:decide (((p.length:Int) + 1) < (best.length:Int)) with
      | true=>exact take (.inr ((fun this:(p.length:Int) + 1 < best.length=>by omega) (by simpa using hc)))
      | false =>
       have:¬ (p.length:Int) + 1 < best.length:=by simpa using hc
       unfold jc
       rw [cond_false]
       exact keep (hS.keep hne fun _ p' hp'=>by have:=(hp.min p' hp').1; omega)
  ·have ek:¬ k < g.N:=by simpa using ek
   obtain rfl:k=g.N:=by omega
   refine ax (ag ?_)
   rw [bA (by omega) (by omega)]
   refine ⟨⟨by dsimp only; omega,by dsimp only; omega,hS.mono ?_,hnb⟩,by dsimp only; omega⟩
   intro i' k' _ _ _ _;unfold FO
   dsimp only
   omega
 ·have e:¬ i < g.N:=by simpa using e
  obtain rfl:i=g.N:=by omega
  obtain ⟨hloop,hblen⟩:=hS.loop
  rw [Ko hg hnet hloop (by omega)]
  refine bX (ax (ag ⟨best0,?_,rfl⟩))
  rw [Int.toNat_of_nonneg h0]
  exact hS
end Go.Proofs.YtfpeabnehpclnaaGreatT
namespace Go.Proofs.YtfpeabnehpclnaaGreatT
open Go Go.Proofs Go.Proofs.YtfpeabnehpclnaaGreatE
set_option linter.unusedVariables false
set_option linter.unusedSimpArgs false
set_option linter.unusedSectionVars false
set_option maxHeartbeats 4000000
def nxt (c:List Edge) (i:Nat):Edge:=idx c (((i + 1) % c.length:Nat):Int)
def inM (e:Edge) (m:Int):Prop:=cK .i64 e.Kind m≠0
end Go.Proofs.YtfpeabnehpclnaaGreatT
namespace Go.Proofs.YtfpeabnehpclnaaGreatT
open Go Go.Proofs Go.Proofs.YtfpeabnehpclnaaGreatE
set_option linter.unusedVariables false
set_option linter.unusedSimpArgs false
set_option maxRecDepth 4096
end Go.Proofs.YtfpeabnehpclnaaGreatT
namespace Go.Proofs.YtfpeabnehpclnaaGreatT
open Go Go.Proofs Go.Proofs.YtfpeabnehpclnaaGreatE
set_option linter.unusedVariables false
set_option linter.unusedSimpArgs false
set_option linter.unusedSectionVars false
variable {t l:Int→Int→Bool} {n k:Nat} {c:Nat→Int}
structure F2 (t l:Int→Int→Bool) (n k:Nat) (c:Nat→Int):Prop where
 pos:0 < k
 per:∀ i,c (i + k)=c i
 node:∀ i,0≤c i∧c i < n
 one:l (c 0) (c 1)=true
 rest:∀ i,0 < i→i < k→t (c i) (c (i + 1))=true
theorem IX {k:Nat} {c:Nat→Int} (hp:∀ i,c (i + k)=c i) (i:Nat):c (i % k)=c i:=by
 have:∀ q r,c (r + k * q)=c r:=by
  intro q
  induction q with
  | zero=>intro r; simp
  | succ q ih=>intro r; rw [show r + k * (q + 1)=(r + k * q) + k by rw [Nat.mul_add]; omega,hp,ih]
 conv=>rhs; rw [← Nat.mod_add_div i k]
 exact (this _ _).symm
theorem Ta {k:Nat} {c:Nat→Int} (hk:0 < k) (hp:∀ i,c (i + k)=c i):((List.range k).map c).length=k∧at3 ((List.range k).map c)=c:=by
 have hl:((List.range k).map c).length=k:=by simp
 refine ⟨hl,funext fun i => ?_⟩;have h1:=Nat.mod_lt i hk;unfold at3
 rw [hl,lQ,List.getD_eq_getElem?_getD,List.getElem?_map,List.getElem?_range h1]
 exact IX hp i
theorem TM {c:List Int} (h:Ef t l n c):F2 t l n c.length (at3 c) :=
 ⟨List.length_pos_iff.2 h.ne,fun i=>by rw [Nat.add_comm]; exact vz _ _,h.node,h.one,h.rest⟩
theorem SC (h:F2 t l n k c):Ef t l n ((List.range k).map c):=by
 obtain ⟨h1,h2⟩:=Ta h.pos h.per;refine ⟨fun e=>by rw [e] at h1; have:=h.pos; simp at h1; omega,?_,?_,?_⟩
 ·rw [h2]; exact h.node
 ·rw [h2]; exact h.one
 ·rw [h1,h2]; exact h.rest
inductive Sot where
 | plain | single | spaced
def wz (g:cz) (d r:Int):Sot→Nat→Prop
 | .plain,k=>∃ c,ko (dY g d) (dY g 0) g.N.toNat k c
 | .single,k=>∃ c,F2 (dY g d) (dY g r) g.N.toNat k c
 | .spaced,k=>∃ c,ko (dY g d) (dY g r) g.N.toNat k c
def Bd (p:Nat→Prop) (k:Nat):Prop:=(k=0∧∀ m,¬ p m)∨(p k∧∀ m,p m→k≤m)
theorem Ou {g:cz} {i j:Int} {k:Nat}:¬ zW g 0 i j k:=by
 rintro ⟨_,_,h⟩;exact h (by unfold cK; rw [show (BitVec.ofInt IntKind.i64.bits 0)=0#IntKind.i64.bits from rfl,BitVec.and_zero]; rfl)
theorem Dz (g:cz) (i j:Int):dY g 0 i j=false:=by
 cases h:dY g 0 i j with
 | false=>rfl
 | true =>
  obtain ⟨k,_,hk⟩:=Kg.1 h;exact (Ou hk).elim
structure yK (g:cz) (m:Int) (a b:Int) (e:Edge):Prop where
 from_:e.From=a
 to:e.To=b
 inM:cK .i64 e.Kind m≠0
 here:∃ k:Nat,k < g.Edges.length∧idx g.Edges (k:Int)=e
theorem Cr {g:cz} {m a b:Int} (h:dY g m a b=true):yK g m a b (idx g.Edges (fe g m g.Edges.length a b - 1)):=by
 have hd:¬ fe g m g.Edges.length a b=0:=by simpa [dY] using h
 rcases EL g m a b g.Edges.length with ⟨h1,_⟩ | ⟨k,h1,h2,h3,_⟩
 ·exact absurd h1 hd
 ·rw [h1,show ((k:Int) + 1 - 1)=k by omega]
  exact ⟨h3.1,h3.2.1,h3.2.2,k,h2,rfl⟩
structure zf (g:cz) (d r:Int) (s:Sot) (es:List Edge) (c:List Int):Prop where
 len:es.length=c.length
 least:Bd (wz g d r s) es.length
 walk:c≠[]→match s with
  | .plain=>Bc (dY g d) (dY g 0) g.N.toNat c
  | .single=>Ef (dY g d) (dY g r) g.N.toNat c
  | .spaced=>Bc (dY g d) (dY g r) g.N.toNat c
 at_:∀ i,i < c.length→match s with
  | .plain=>yK g d (at3 c i) (at3 c (i + 1)) (idx es (i:Int))
  | .single=>yK g (if i=0 then r else d) (at3 c i) (at3 c (i + 1)) (idx es (i:Int))
  | .spaced=>(dY g d (at3 c i) (at3 c (i + 1))=true∧yK g d (at3 c i) (at3 c (i + 1)) (idx es (i:Int)))∨(dY g d (at3 c i) (at3 c (i + 1))=false∧dY g r (at3 c i) (at3 c (i + 1))=true∧dY g d (at3 c (i + 1)) (at3 c (i + 2))=true∧yK g r (at3 c i) (at3 c (i + 1)) (idx es (i:Int)))
 nd:∀ i j,i < c.length→j < c.length→at3 c i=at3 c j→i=j
theorem FP {α:Type} [Inhabited α] (f:Nat→α) {k i:Nat} (h:i < k):idx ((List.range k).map f) (i:Int)=f i:=by
 rw [lQ,List.getD_eq_getElem?_getD,List.getElem?_map,List.getElem?_range h]
 rfl
theorem FQ {B:Int} (hB:(n:Int) < B) {best:List Int} (h:iP t l n B n best):Bd (fun k=>∃ c,ko t l n k c) best.length∧(best≠[]→Bc t l n best):=by
 rcases h with ⟨rfl,h1⟩ | ⟨s,p,rfl,h2,h3,_,h4,h5,h6⟩
 ·refine ⟨.inl ⟨rfl,?_⟩,fun h=>absurd rfl h⟩;rintro m ⟨c,hc⟩;obtain ⟨s,p,a,b,hp,hl,_⟩:=FL hc;have:=h1 s a b p hp
  omega
 ·have hL:=(Kc ⟨h2,h3⟩ h4.clo).1;refine ⟨.inr ⟨⟨_,hL⟩,?_⟩,fun _=>hL⟩;rintro m ⟨c,hc⟩;obtain ⟨s',p',a,b,hp,_,hl⟩:=FL hc;have:=(h6 s' p' a b hp).1
  simp only [List.length_cons]
  omega
theorem Kq {best:List Int} (hl:Bd (fun k=>∃ c,ko t l n k c) best.length) (hL:best≠[]→Bc t l n best):∀ i j,i < best.length→j < best.length→at3 best i=at3 best j→i=j:=by
 intro i j hi hj e;have hne:best≠[]:=by intro h; rw [h] at hi; simp at hi
 rcases hl with ⟨h0,_⟩ | ⟨_,hmin⟩
 ·omega
 ·exact (hL hne).inj (fun k' c' h=>hmin k' ⟨c',h⟩) hi hj e
theorem Bu {g:cz} (hg:Good g) (d r:Int):∃ es c,lm g d=some (es,0)∧zf g d r .plain es c:=by
 have h0:=hg.n0;obtain ⟨_,e1,best,h1,rfl⟩:=xX hg d 0;obtain ⟨h2,h3⟩:=FQ (by omega) h1;refine ⟨kZ g d 0 best,best,by unfold lm; rw [e1]; rfl,by simp [kZ],by rw [show (kZ g d 0 best).length=best.length by simp [kZ]]; exact h2,h3,fun i hi => ?_,Kq h2 h3⟩
 have hL:=h3 (by intro h; rw [h] at hi; simp at hi);have he:dY g d (at3 best i) (at3 best (i + 1))=true:=by
  rcases hL.edge i with h | h
  ·exact h
  ·rw [Dz] at h; cases h.1
 show yK g d _ _ (idx (kZ g d 0 best) (i:Int))
 unfold kZ
 rw [FP _ hi]
 unfold FM
 rw [if_pos he]
 exact Cr he
theorem Kr {g:cz} (hg:Good g) (d r:Int):∃ es c,cB g d r=some (es,0)∧zf g d r .spaced es c:=by
 have h0:=hg.n0;obtain ⟨_,e1,best,h1,rfl⟩:=xX hg d r;obtain ⟨h2,h3⟩:=FQ (by omega) h1;refine ⟨kZ g d r best,best,e1,by simp [kZ],by rw [show (kZ g d r best).length=best.length by simp [kZ]]; exact h2,h3,fun i hi => ?_,Kq h2 h3⟩
 have hL:=h3 (by intro h; rw [h] at hi; simp at hi)
 show (_∧yK g d _ _ (idx (kZ g d r best) (i:Int)))∨(_∧_∧_∧yK g r _ _ (idx (kZ g d r best) (i:Int)))
 unfold kZ
 rw [FP _ hi]
 unfold FM;cases hd:dY g d (at3 best i) (at3 best (i + 1)) with
 | true=>exact .inl ⟨rfl,Cr hd⟩
 | false =>
  have he:=hL.edge i
  rw [hd] at he
  have he:dY g r (at3 best i) (at3 best (i + 1))=true∧dY g d (at3 best (i + 1)) (at3 best (i + 2))=true:=by simpa using he
  exact .inr ⟨rfl,he.1,he.2,Cr he.1⟩
theorem Kt {b:Int} {p:List Int} {x:Int} (h:run (ex1 t n) b p=some x):∀ i,i≤p.length→run (ex1 t n) b (p.take i)=some (idx (b::p) (i:Int))∧run (ex1 t n) (idx (b::p) (i:Int)) (p.drop i)=some x:=by
 intro i hi;have h1:=h
 rw [← List.take_append_drop i p,IU] at h1
 cases hy:run (ex1 t n) b (p.take i) with
 | none=>rw [hy] at h1; cases h1
 | some y =>
  rw [hy] at h1
  have h2:=ends hy;have:y=idx (b::p) (i:Int):=by
   rw [List.getLast?_eq_getElem?] at h2
   have hl:(b::p.take i).length - 1=i:=by simp; omega
   rw [hl] at h2
   rw [lQ,List.getD_eq_getElem?_getD]
   rw [show b::p.take i=(b::p).take (i + 1) by simp,List.getElem?_take_of_lt (by omega)] at h2
   rw [h2]
   rfl
  subst this;exact ⟨rfl,h1⟩
theorem Qn {a b:Int} {p:List Int} (h:zU (ex1 t n) (· = a) b p):∀ i j,i≤p.length→j≤p.length→idx (b::p) (i:Int)=idx (b::p) (j:Int)→i=j:=by
 have main:∀ i j,i < j→j≤p.length→idx (b::p) (i:Int)≠idx (b::p) (j:Int):=by
  intro i j hij hj e;obtain ⟨x,hx,hxa⟩:=h.clo;obtain ⟨h1,_⟩:=Kt hx i (by omega);obtain ⟨_,h2⟩:=Kt hx j hj;have h3:Clo (ex1 t n) (· = a) b (p.take i++p.drop j):=⟨x,by rw [IU,h1,e]; exact h2,hxa⟩
  have:=(h.min _ h3).1
  simp at this
  omega
 intro i j hi hj e;rcases Nat.lt_trichotomy i j with h1 | h1 | h1
 ·exact absurd e (main i j h1 hj)
 ·exact h1
 ·exact absurd e.symm (main j i h1 hi)
theorem Ku {g:cz} (hg:Good g) (d r:Int):∃ es c,cu g d r=some (es,0)∧zf g d r .single es c:=by
 have h0:=hg.n0;obtain ⟨_,e1,best,h1,rfl⟩:=Dy hg d r;have a1:((g.N.toNat:Nat):Int)=g.N:=Int.toNat_of_nonneg h0;have hlen:(yJ g d r best).length=best.length:=by simp [yJ]
 have hloop:=h1.loop.1;have hwalk:best≠[]→Ef (dY g d) (dY g r) g.N.toNat best:=fun h=>hloop.elim (fun e=>absurd e h) id;refine ⟨yJ g d r best,best,e1,hlen,?_,hwalk,fun i hi => ?_,?_⟩
 ·rw [hlen]
  rcases h1 with ⟨rfl,h2⟩ | ⟨a,b,p,rfl,ha,hb,hl,hp,hpl,_,h2⟩
  ·refine .inl ⟨rfl,?_⟩;rintro m ⟨c,hc⟩;have hL:=SC hc;obtain ⟨p,hp,_⟩:=Kn hL;have n1:=hL.node 0;have n2:=hL.node 1;exact h2 _ _ n1.1 n1.2 n2.1 n2.2 (.inl n1.2) hL.one p hp
  ·refine .inr ⟨⟨_,TM (hwalk (by simp))⟩,?_⟩;rintro m ⟨c,hc⟩;have hL:=SC hc;obtain ⟨q,hq,hql⟩:=Kn hL;have n1:=hL.node 0;have n2:=hL.node 1;have:=(h2 _ _ n1.1 n1.2 n2.1 n2.2 (.inl n1.2) hL.one q hq).1;have hm:((List.range m).map c).length=m:=by simp
   simp only [List.length_cons,lc]
   omega
 ·have hL:=hwalk (by intro h; rw [h] at hi; simp at hi)
  show yK g _ _ _ (idx (yJ g d r best) (i:Int))
  unfold yJ
  rw [FP _ hi]
  unfold Ia
  by_cases e:i=0
  ·subst e
   rw [if_pos rfl,if_pos rfl]
   exact Cr hL.one
  ·rw [if_neg e,if_neg e]
   exact Cr (hL.rest i (by omega) hi)
 ·rcases h1 with ⟨rfl,h2⟩ | ⟨a,b,p,rfl,ha,hb,hl,hp,hpl,_,h2⟩
  ·intro i j hi; simp at hi
  ·obtain ⟨x,hx,rfl⟩:=hp.clo;have hn:=Km hx;have hnd:=Qn hp;have hcl:(x::fJ b p).length=p.length + 1:=by simp [lc]
   have key:∀ i,i < (x::fJ b p).length→∃ m,m≤p.length∧at3 (x::fJ b p) i=idx (b::p) (m:Int)∧(m + 1) % (p.length + 1)=i:=by
    intro i hi
    rw [hcl] at hi
    cases i with
    | zero =>
     refine ⟨p.length,Nat.le_refl _,?_,Nat.mod_self _⟩
     rw [← hn p.length (Nat.le_refl _)]
     have:=vz (x::fJ b p) 0
     rw [hcl,Nat.add_zero] at this
     exact this.symm
    | succ i=>exact ⟨i,by omega,hn i (by omega),Nat.mod_eq_of_lt hi⟩
   intro i j hi hj e;obtain ⟨m,h3,h4,h5⟩:=key i hi;obtain ⟨m',h6,h7,h8⟩:=key j hj
   rw [h4,h7] at e
   have:=hnd m m' h3 h6 e
   rw [← h5,← h8,this]
end Go.Proofs.YtfpeabnehpclnaaGreatT
namespace Go.Proofs.YtfpeabnehpclnaaGreatT
open Go Go.Proofs Go.Proofs.YtfpeabnehpclnaaGreatE
set_option linter.unusedVariables false
set_option linter.unusedSimpArgs false
set_option linter.unusedSectionVars false
theorem SE:∀ {a b:List Int},a.Nodup→(∀ v ∈ a,v ∈ b)→a.length≤b.length
 | [],_,_,_=>Nat.zero_le _
 | x::a,b,hn,hs=>by
  obtain ⟨h1,h2⟩:=List.nodup_cons.1 hn;have hx:x ∈ b:=hs x (by simp);have:=SE (a:=a) (b:=b.erase x) h2 fun v hv=>(List.mem_erase_of_ne (fun e=>h1 (by rw [← e]; exact hv))).2 (hs v (by simp [hv]))
  rw [List.length_erase_of_mem hx] at this
  have:0 < b.length:=List.length_pos_of_mem hx
  simp only [List.length_cons]
  omega
theorem Kv {α:Type} [Inhabited α] {c:List α} {i:Nat} (h:i < c.length):idx c (i:Int)=c[i]:=by rw [lQ,List.getD_eq_getElem?_getD,List.getElem?_eq_getElem h]; rfl
theorem zf.ends {g:cz} {d r:Int} {s:Sot} {es:List Edge} {c:List Int} (h:zf g d r s es c) {i:Nat} (hi:i < c.length):(idx es (i:Int)).From=at3 c i∧(idx es (i:Int)).To=at3 c (i + 1)∧∃ k:Nat,k < g.Edges.length∧idx g.Edges (k:Int)=idx es (i:Int):=by
 have h1:=h.at_ i hi;cases s with
 | plain=>exact ⟨h1.from_,h1.to,h1.here⟩
 | single=>exact ⟨h1.from_,h1.to,h1.here⟩
 | spaced=>rcases h1 with ⟨_,h1⟩ | ⟨_,_,_,h1⟩ <;> exact ⟨h1.from_,h1.to,h1.here⟩
theorem zf.node {g:cz} (hg:Good g) {d r:Int} {s:Sot} {es:List Edge} {c:List Int} (h:zf g d r s es c) {i:Nat} (hi:i < c.length):0≤(idx es (i:Int)).From∧(idx es (i:Int)).From < g.N:=by
 obtain ⟨_,_,k,hk,e⟩:=h.ends hi;have:=hg.e k hk
 rw [e] at this
 exact ⟨this.1,this.2.1⟩
theorem Eg {g g':cz} {d r d' r':Int} (hN:g.N=g'.N) (h:∀ a b,dY g d a b=true→dY g' d' a b=true) (h':∀ a b,dY g r a b=true→dY g' r' a b=true) {s:Sot} {k:Nat} (hk:wz g d r s k):wz g' d' r' s k:=by
 cases s with
 | plain =>
  obtain ⟨c,hc⟩:=hk;refine ⟨c,hc.pos,hc.per,by rw [← hN]; exact hc.node,fun i => ?_⟩
  rcases hc.edge i with h1 | h1
  ·exact .inl (h _ _ h1)
  ·rw [Dz] at h1; cases h1.1
 | single =>
  obtain ⟨c,hc⟩:=hk;exact ⟨c,hc.pos,hc.per,by rw [← hN]; exact hc.node,h' _ _ hc.one,fun i h1 h2=>h _ _ (hc.rest i h1 h2)⟩
 | spaced =>
  obtain ⟨c,hc⟩:=hk;refine ⟨c,hc.pos,hc.per,by rw [← hN]; exact hc.node,fun i => ?_⟩
  rcases hc.edge i with h1 | h1
  ·exact .inl (h _ _ h1)
  ·exact .inr ⟨h' _ _ h1.1,h _ _ h1.2⟩
theorem Kw {g:cz} {e:Edge}:(∃ k:Nat,k < g.Edges.length∧idx g.Edges (k:Int)=e)↔e ∈ g.Edges:=by
 constructor
 ·rintro ⟨k,hk,rfl⟩
  rw [Kv hk]
  exact List.getElem_mem hk
 ·intro h;obtain ⟨k,hk,e2⟩:=List.mem_iff_getElem.1 h;exact ⟨k,hk,by rw [Kv hk,e2]⟩
theorem FR {g:cz} {m a b:Int}:dY g m a b=true↔∃ e ∈ g.Edges,e.From=a∧e.To=b∧cK .i64 e.Kind m≠0:=by
 rw [Kg]
 constructor
 ·rintro ⟨k,hk,h⟩; exact ⟨_,Kw.1 ⟨k,hk,rfl⟩,h⟩
 ·rintro ⟨e,he,h⟩;obtain ⟨k,hk,rfl⟩:=Kw.2 he;exact ⟨k,hk,h⟩
end Go.Proofs.YtfpeabnehpclnaaGreatT
namespace Go.Proofs.YtfpeabnehpclnaaGreatT
open Go Go.Proofs Go.Proofs.YtfpeabnehpclnaaGreatE
set_option linter.unusedVariables false
set_option linter.unusedSimpArgs false
set_option linter.unusedSectionVars false
set_option maxRecDepth 4096
end Go.Proofs.YtfpeabnehpclnaaGreatT
namespace Go.Proofs.YtfpeabnehpclnaaGreatT
open Go Go.Proofs Go.Proofs.YtfpeabnehpclnaaGreatE
set_option linter.unusedVariables false
set_option linter.unusedSimpArgs false
set_option linter.unusedSectionVars false
theorem Nn (v:BitVec 64):BitVec.ofInt 64 (IntKind.wrap .i64 (v.toNat:Int))=v:=by
 apply BitVec.eq_of_toNat_eq
 rw [BitVec.toNat_ofInt]
 have h:=v.isLt;unfold IntKind.wrap
 simp only [IntKind.bits,IntKind.signed,Bool.true_and,decide_eq_true_eq]
 split <;> omega
theorem LV {x d r:Int}:cK .i64 x (bOr .i64 d r)≠0↔cK .i64 x d≠0∨cK .i64 x r≠0:=by
 have hz:∀ v:BitVec 64,IntKind.wrap .i64 (v.toNat:Int)=0↔v=0#64:=by
  intro v
  constructor
  ·intro h
   rw [← Nn v,h]
   rfl
  ·rintro rfl; rfl
 have hb:∀ a b:Int,cK .i64 a b=0↔BitVec.ofInt 64 a &&& BitVec.ofInt 64 b=0#64:=fun a b=>hz _
 rw [Ne,Ne,Ne,hb,hb,hb]
 have ho:BitVec.ofInt 64 (bOr .i64 d r)=BitVec.ofInt 64 d ||| BitVec.ofInt 64 r:=Nn _
 rw [ho]
 generalize BitVec.ofInt 64 x=X;generalize BitVec.ofInt 64 d=D;generalize BitVec.ofInt 64 r=R;have e:X &&& (D ||| R)=(X &&& D) ||| (X &&& R):=by
  ext i
  simp [Bool.and_or_distrib_left]
 rw [e]
 have hor:∀ A B:BitVec 64,A ||| B=0#64↔A=0#64∧B=0#64:=by
  intro A B
  constructor
  ·intro h
   constructor
   ·ext i hi
    have:=congrArg (fun v=>v.getLsbD i) h
    simp at this ⊢
    have h2:=this
    simp [BitVec.getLsbD_eq_getElem hi] at h2
    exact h2.1
   ·ext i hi
    have:=congrArg (fun v=>v.getLsbD i) h
    simp at this ⊢
    have h2:=this
    simp [BitVec.getLsbD_eq_getElem hi] at h2
    exact h2.2
  ·rintro ⟨rfl,rfl⟩; rfl
 rw [hor]
 exact Classical.not_and_iff_not_or_not
theorem EM {g:cz} {d r a b:Int}:dY g (bOr .i64 d r) a b=true↔dY g d a b=true∨dY g r a b=true:=by
 rw [FR,FR,FR]
 constructor
 ·rintro ⟨e,he,h1,h2,h3⟩;rcases LV.1 h3 with h | h
  ·exact .inl ⟨e,he,h1,h2,h⟩
  ·exact .inr ⟨e,he,h1,h2,h⟩
 ·rintro (⟨e,he,h1,h2,h⟩ | ⟨e,he,h1,h2,h⟩)
  ·exact ⟨e,he,h1,h2,LV.2 (.inl h)⟩
  ·exact ⟨e,he,h1,h2,LV.2 (.inr h)⟩
theorem yL {g:cz} {d r:Int} {s:Sot} {k:Nat} (h:wz g d r s k):0 < k:=by
 cases s with
 | plain=>obtain ⟨c,hc⟩:=h; exact hc.pos
 | single=>obtain ⟨c,hc⟩:=h; exact hc.pos
 | spaced=>obtain ⟨c,hc⟩:=h; exact hc.pos
theorem Cs {p:Nat→Prop} (hp:∀ k,p k→0 < k) {m k:Nat} (hm:Bd p m) (hk:p k):0 < m∧m≤k:=by
 rcases hm with ⟨_,h⟩ | ⟨h1,h2⟩
 ·exact (h k hk).elim
 ·exact ⟨hp _ h1,h2 k hk⟩
theorem Ar {p:Nat→Prop} {m:Nat} (hm:Bd p m) (h:0 < m):p m:=by
 rcases hm with ⟨h1,_⟩ | ⟨h1,_⟩
 ·omega
 ·exact h1
theorem GJ {g:cz} {d r:Int} {k:Nat} (h:wz g d r .single k) (hk:1 < k):wz g d r .spaced k:=by
 obtain ⟨c,hc⟩:=h;refine ⟨c,hc.pos,hc.per,hc.node,fun i => ?_⟩;have hm:=Nat.mod_lt i hc.pos;have e:∀ j,c (i % k + j)=c (i + j):=by
  intro j
  rw [← IX hc.per (i % k + j),← IX hc.per (i + j),Nat.mod_add_mod]
 rcases Nat.eq_zero_or_pos (i % k) with h0 | h0
 ·right
  have h1:=hc.one;have h2:=hc.rest 1 (by omega) hk;have e0:=e 0;have e1:=e 1;have e2:=e 2
  rw [h0] at e0 e1 e2
  simp only [Nat.zero_add,Nat.add_zero] at e0 e1 e2
  rw [e0,e1] at h1
  rw [e1,show (1 + 1:Nat)=2 from rfl,e2] at h2
  exact ⟨h1,h2⟩
 ·left
  have h1:=hc.rest _ h0 hm;have e0:=e 0
  rw [Nat.add_zero,Nat.add_zero] at e0
  rw [e 1,e0] at h1
  exact h1
end Go.Proofs.YtfpeabnehpclnaaGreatT
namespace Go.Proofs.YtfpeabnehpclnaaGreatT
open Go Go.Proofs Go.Proofs.YtfpeabnehpclnaaGreatE
set_option linter.unusedVariables false
set_option linter.unusedSimpArgs false
section
variable {h:History}
def cOf (k:Int):Int×Int×Int×Int:=if k=3 then (1,13,0,1) else if k=4 then (4,5,16,2) else if k=5 then (6,13,16,3) else if k=6 then (7,29,0,1) else (8,31,0,1)
noncomputable abbrev gr (h:History):cz:=⟨(h.Txns.length:Int),pW h⟩
noncomputable abbrev Np (h:History):List Ask:=empties h (bu h h.Txns.length)
theorem LW (hs:qM h) (hS:eY h) (hv:aC h=some 0):pq h=some (Np h,0):=by
 have a1:=hS.len;obtain ⟨i1,_,_⟩:=vH hS h.Txns.length (Nat.le_refl _);have hA:jJ h=some (bu h h.Txns.length,0):=by unfold jJ; rw [Cg hs hS hv]; rfl
 unfold pq
 rw [hA]
 show (bv _ h).bind _=_
 rw [JU hS hv (fun a ha=>ha) (by omega)]
 rfl
theorem Qo (hs:qM h) (hS:eY h) (hv:aC h=some 0):tq h=some (qg h h.Txns.length,0):=by unfold tq; rw [Cg hs hS hv]; rfl
end
end Go.Proofs.YtfpeabnehpclnaaGreatT
namespace Go.Proofs.YtfpeabnehpclnaaGreatT
open Go Go.Proofs Go.Proofs.YtfpeabnehpclnaaGreatE
set_option linter.unusedVariables false
set_option linter.unusedSimpArgs false
section
variable {h:History}
def Qp (k:Int):Sot:=if k=4 then .single else if k=5 then .spaced else .plain
noncomputable def RL (g:cz) (k:Int):Option (List Edge×Int):=if k=3 then lm g 13 else if k=4 then cu g 5 16 else if k=5 then cB g 13 16 else if k=6 then lm g 29 else lm g 31
noncomputable def lH (g:cz) (k:Int):List Edge:=match RL g k with | some r=>r.1 | none=>[]
theorem five {k:Int} (h3:3≤k) (h7:k≤7):k=3∨k=4∨k=5∨k=6∨k=7:=by omega
theorem oL {g:cz} (hg:Good g) {k:Int} (h3:3≤k) (h7:k≤7):RL g k=some (lH g k,0)∧∃ c,zf g (cOf k).2.1 (cOf k).2.2.1 (Qp k) (lH g k) c:=by
 have fin:∀ {es:List Edge} {c:List Int},RL g k=some (es,0)→zf g (cOf k).2.1 (cOf k).2.2.1 (Qp k) es c→RL g k=some (lH g k,0)∧∃ c,zf g (cOf k).2.1 (cOf k).2.2.1 (Qp k) (lH g k) c:=by
  intro es c e h;have:lH g k=es:=by unfold lH; rw [e]
  rw [this]
  exact ⟨e,c,h⟩
 rcases five h3 h7 with rfl | rfl | rfl | rfl | rfl
 ·obtain ⟨es,c,e,h⟩:=Bu hg 13 0;exact fin e h
 ·obtain ⟨es,c,e,h⟩:=Ku hg 5 16;exact fin e h
 ·obtain ⟨es,c,e,h⟩:=Kr hg 13 16;exact fin e h
 ·obtain ⟨es,c,e,h⟩:=Bu hg 29 0;exact fin e h
 ·obtain ⟨es,c,e,h⟩:=Bu hg 31 0;exact fin e h
theorem zf.few {g:cz} (hg:Good g) {d r:Int} {s:Sot} {es:List Edge} {c:List Int} (hT:zf g d r s es c):es.length≤64:=by
 have h1:=hg.n1;have:=SE (a:=(List.range c.length).map (at3 c)) (b:=(List.range 64).map fun j:Nat=>(j:Int)) ?_ ?_
 ·rw [List.length_map,List.length_map,List.length_range,List.length_range,← hT.len] at this
  exact this
 ·unfold List.Nodup
  rw [List.pairwise_map]
  refine List.pairwise_lt_range.imp_of_mem fun {a b} ha hb h4 e => ?_;have:=hT.nd a b (List.mem_range.1 ha) (List.mem_range.1 hb) e
  omega
 ·intro v hv;obtain ⟨i,hi,rfl⟩:=List.mem_map.1 hv;have hh:=hT.node hg (List.mem_range.1 hi)
  rw [(hT.ends (List.mem_range.1 hi)).1] at hh
  exact List.mem_map.2 ⟨(at3 c i).toNat,List.mem_range.2 (by omega),by omega⟩
theorem RN {g:cz} (hg:Good g) {k:Int} (h3:3≤k) (h7:k≤7):(lH g k).length≤64:=by
 obtain ⟨_,c,hT⟩:=oL hg h3 h7;exact hT.few hg
noncomputable def sj (h:History) (k:Int):List bY:=if 0 < (lH (gr h) k).length then [⟨k,(cOf k).1,⟨0,0⟩,lH (gr h) k⟩] else []
noncomputable def inB (h:History):List bY:=if 0 < (qg h h.Txns.length).length then [⟨1,1,idx (qg h h.Txns.length) 0,[]⟩] else []
noncomputable def gaB (h:History):List bY:=if 0 < (Np h).length then [⟨2,1,⟨(idx (Np h) 0).Txn,(idx (Np h) 0).Place⟩,[]⟩] else []
noncomputable def cyL (h:History):List bY:=sj h 3++(sj h 4++(sj h 5++(sj h 6++sj h 7)))
noncomputable def lG (h:History):List bY:=inB h++(gaB h++cyL h)
theorem RO:(inB h).length≤1:=by unfold inB; split <;> simp
theorem RP:(gaB h).length≤1:=by unfold gaB; split <;> simp
theorem su {k:Int}:(sj h k).length≤1:=by unfold sj; split <;> simp
theorem Ky {l:List bY} {s:fF} {k:Int} (hl:l.length≤100) (hk:Il s.find (gr h) s.d s.r=some (lH (gr h) k,0)) (h1:s.kind=k) (h2:s.level=(cOf k).1) :
  gN (gr h,0) (.inl l) s=some (true,.inl (l++sj h k)):=by
 refine eQ.1 ?_;unfold gN uj
 dsimp only
 refine bK hk ?_;unfold sj;refine az (fun q => ?_) (fun q=>ag ?_)
 ·refine ah (by omega) (ag ?_)
  rw [if_pos (by dsimp only at q; omega),h1,h2]
 ·rw [if_neg (by dsimp only at q; omega),List.append_nil]
theorem Kz (g:cz) (d r:Int):Il 54 g d r=cu g d r:=rfl
theorem KA (g:cz) (d r:Int):Il 55 g d r=cB g d r:=rfl
theorem Bv (g:cz) (d r:Int):Il 81 g d r=lm g d:=by
 show uq g d r=_
 unfold uq;cases lm g d <;> rfl
theorem Qq (hg:Good (gr h)) {l:List bY} (hl:l.length≤10):qQ (gN (gr h,0)) (.inl l)=some (.inl (l++cyL h)):=by
 have e3:=(oL hg (k:=3) (by decide) (by decide)).1;have e4:=(oL hg (k:=4) (by decide) (by decide)).1;have e5:=(oL hg (k:=5) (by decide) (by decide)).1;have e6:=(oL hg (k:=6) (by decide) (by decide)).1;have e7:=(oL hg (k:=7) (by decide) (by decide)).1;have n3:=su (h:=h) (k:=3);have n4:=su (h:=h) (k:=4);have n5:=su (h:=h) (k:=5);have n6:=su (h:=h) (k:=6);have i3:∀ l:List bY,l.length≤100→gN (gr h,0) (.inl l) ⟨3,1,13,0,1,81⟩=some (true,.inl (l++sj h 3)):=fun l hl=>Ky hl ((Bv _ _ _).trans e3) rfl rfl;have i4:∀ l:List bY,l.length≤100→gN (gr h,0) (.inl l) ⟨4,4,5,16,2,54⟩=some (true,.inl (l++sj h 4)):=fun l hl=>Ky hl ((Kz _ _ _).trans e4) rfl rfl;have i5:∀ l:List bY,l.length≤100→gN (gr h,0) (.inl l) ⟨5,6,13,16,3,55⟩=some (true,.inl (l++sj h 5)):=fun l hl=>Ky hl ((KA _ _ _).trans e5) rfl rfl;have i6:∀ l:List bY,l.length≤100→gN (gr h,0) (.inl l) ⟨6,7,29,0,1,81⟩=some (true,.inl (l++sj h 6)):=fun l hl=>Ky hl ((Bv _ _ _).trans e6) rfl rfl;have i7:∀ l:List bY,l.length≤100→gN (gr h,0) (.inl l) ⟨7,8,31,0,1,81⟩=some (true,.inl (l++sj h 7)):=fun l hl=>Ky hl ((Bv _ _ _).trans e7) rfl rfl;unfold qQ
 rw [i3 _ (by omega),Option.bind_some]
 simp only [Bool.not_true,cond_false]
 rw [i4 _ (by rw [List.length_append]; omega),Option.bind_some]
 simp only [Bool.not_true,cond_false]
 rw [i5 _ (by simp only [List.length_append]; omega),Option.bind_some]
 simp only [Bool.not_true,cond_false]
 rw [i6 _ (by simp only [List.length_append]; omega),Option.bind_some]
 simp only [Bool.not_true,cond_false]
 rw [i7 _ (by simp only [List.length_append]; omega),Option.bind_some]
 simp only [Bool.not_true,cond_false]
 unfold cyL
 simp only [List.append_assoc]
theorem Nq (hs:qM h) (hS:eY h) (hc:aC h=some 0) {l:List bY} (hl:l.length≤10):qc h l=some (l++cyL h,0):=by
 refine eQ.1 ?_;unfold qc;refine bK (LH hs hS hc) ?_;refine az (fun h=>absurd rfl h) (fun _ => ?_);refine bK (Qq (FH hS hc) hl) ?_;exact ag rfl
theorem Nr (hs:qM h) (hS:eY h) (hc:aC h=some 0) {l:List bY} (hl:l.length≤1):qd h l=some (l++(gaB h++cyL h),0):=by
 refine eQ.1 ?_;unfold qd;refine bK (LW hs hS hc) ?_;unfold gaB;refine az (fun q => ?_) (fun q => ?_)
 ·dsimp only at q
  refine ah (by dsimp only; omega) (ah (by omega) ?_)
  rw [if_pos (by omega)]
  refine EN (Nq hs hS hc (by rw [List.length_append]; simp; omega)) ?_
  rw [List.append_assoc]
 ·dsimp only at q
  rw [if_neg (by omega),List.nil_append]
  exact EN (Nq hs hS hc (by omega)) rfl
theorem Ov (hs:qM h) (hS:eY h) (hc:aC h=some 0):bU h=some (lG h,0):=by
 refine eQ.1 ?_;unfold bU;refine bK (Qo hs hS hc) ?_;refine az (fun h=>absurd rfl h) (fun _ => ?_);unfold lG inB;refine az (fun q => ?_) (fun q => ?_)
 ·dsimp only at q
  refine ah (by dsimp only; omega) (ah (by omega) ?_)
  rw [if_pos (by omega)]
  exact EN (Nr hs hS hc (by simp)) rfl
 ·dsimp only at q
  rw [if_neg (by omega)]
  exact EN (Nr hs hS hc (by simp)) rfl
theorem Qr (hc:aC h=some 1):bU h=some ([],1):=by
 unfold bU tq lV
 rw [hc]
 rfl
end
end Go.Proofs.YtfpeabnehpclnaaGreatT
namespace Go.Proofs.YtfpeabnehpclnaaGreatT
open Go Go.Proofs Go.Proofs.YtfpeabnehpclnaaGreatE
set_option linter.unusedVariables false
set_option linter.unusedSimpArgs false
set_option maxRecDepth 4096
section
variable {h:History}
theorem RQ:(lG h).Pairwise (fun a b=>a.Kind < b.Kind):=by
 have cy:∀ {k:Int} {b:bY},b ∈ sj h k→b.Kind=k:=by
  intro k b hb;unfold sj at hb
  split at hb
  ·rw [List.mem_singleton] at hb; rw [hb]
  ·cases hb
 have one:∀ {k:Int},(sj h k).Pairwise (fun a b=>a.Kind < b.Kind):=by
  intro k;unfold sj
  split
  ·exact List.pairwise_singleton _ _
  ·exact List.Pairwise.nil
 have i1:∀ {b:bY},b ∈ inB h→b.Kind=1:=by
  intro b hb;unfold inB at hb
  split at hb
  ·rw [List.mem_singleton] at hb; rw [hb]
  ·cases hb
 have g1:∀ {b:bY},b ∈ gaB h→b.Kind=2:=by
  intro b hb;unfold gaB at hb
  split at hb
  ·rw [List.mem_singleton] at hb; rw [hb]
  ·cases hb
 unfold lG cyL
 simp only [List.pairwise_append,List.mem_append]
 refine ⟨?_,⟨?_,⟨one,⟨one,⟨one,⟨one,one,?_⟩,?_⟩,?_⟩,?_⟩,?_⟩,?_⟩
 ·unfold inB
  split
  ·exact List.pairwise_singleton _ _
  ·exact List.Pairwise.nil
 ·unfold gaB
  split
  ·exact List.pairwise_singleton _ _
  ·exact List.Pairwise.nil
 ·intro a ha b hb;have:=cy ha; have:=cy hb; omega
 ·intro a ha b hb;have:=cy ha;rcases hb with hb | hb <;> (have:=cy hb; omega)
 ·intro a ha b hb;have:=cy ha;rcases hb with hb | hb | hb <;> (have:=cy hb; omega)
 ·intro a ha b hb;have:=cy ha;rcases hb with hb | hb | hb | hb <;> (have:=cy hb; omega)
 ·intro a ha b hb;have:=g1 ha;rcases hb with hb | hb | hb | hb | hb <;> (have:=cy hb; omega)
 ·intro a ha b hb;have:=i1 ha;rcases hb with hb | hb | hb | hb | hb | hb <;> first | (have:=g1 hb; omega) | (have:=cy hb; omega)
theorem Ow:(lG h).length≤7:=by
 have a1:=RO (h:=h);have a2:=RP (h:=h);have a3:=su (h:=h) (k:=3);have a4:=su (h:=h) (k:=4);have a5:=su (h:=h) (k:=5);have a6:=su (h:=h) (k:=6);have a7:=su (h:=h) (k:=7);unfold lG cyL
 simp only [List.length_append]
 omega
end
end Go.Proofs.YtfpeabnehpclnaaGreatT
