/- The plain law of an issuer: what is pushed, entered, logged in, agreed to, redeemed, renewed; what is told of a token. No program here. -/
import Derived.Test.YtnhjgocdepbajaaGreatXr
import Derived.Test.YtnhjgocdepbajaaGreatXc
import Derived.Test.YtnhjgocdepbajaaGreatXs
import Derived.Test.YtnhjgocdepbajaaGreatXn
set_option linter.unusedVariables false
set_option linter.unusedSimpArgs false
set_option maxRecDepth 20000
namespace Go.Proofs.YtnhjgocdepbajaaGreat
open Go.RowKit S19 C17
structure ClP where
 id : List UInt8
 sec : Int
 red : List (List UInt8)
 sc : List UInt8
 deriving DecidableEq
def clP (c : Cl) : ClP := ⟨c.id, c.sec, c.red, c.sc⟩
structure UsP where
 nm : List UInt8
 pass : Int
 deriving DecidableEq
structure Wt where
 t1 : ByteArray
 t2 : ByteArray
 t3 : ByteArray
 t4 : ByteArray
 t5 : ByteArray
 t6 : ByteArray
 t7 : ByteArray
 deriving DecidableEq
def Wt.cells (w : Wt) : List Value := [.string w.t1, .string w.t2, .string w.t3, .string w.t4, .string w.t5, .string w.t6, .string w.t7]
def Wt.arr (w : Wt) : Array Value := w.cells.toArray
def wt0 : Wt := ⟨⟨#[]⟩, ⟨#[]⟩, ⟨#[]⟩, ⟨#[]⟩, ⟨#[]⟩, ⟨#[]⟩, ⟨#[]⟩⟩
def wantOf (r : Rc) : Wt := ⟨r.s1, r.s2, r.s3, r.s4, r.s5, r.s6, r.s7⟩
def recOf (kind key till : Int) (used : Bool) (client user sess fam : Int) (w : Wt) : Rc := ⟨kind, key, till, used, client, user, sess, fam, w.t1, w.t2, w.t3, w.t4, w.t5, w.t6, w.t7⟩
structure Sr where
 n : Int
 conn : Int
 now : Int
 deriving DecidableEq
def Sr.arr (s : Sr) : Array Value := #[.int .i64 s.n, .int .i64 s.conn, .int .i64 s.now]
structure Bs where
 nm : List UInt8
 key : Int
 cls : List ClP
 us : List UsP
def untilI (now life : Int) : Int := if 1099511627776 - now < max life 0 then 1099511627776 else now + max life 0
def drawB (s : Sr) : Bool := decide (s.n ≤ 1073741824)
def drawS (s : Sr) : Sr := if drawB s then { s with n := s.n + 1 } else s
def drawK (s : Sr) : Int := if drawB s then s.n else 0
def sCode : List UInt8 := [99, 111, 100, 101]
def sS256 : List UInt8 := [83, 50, 53, 54]
def mk (l : List UInt8) : ByteArray := ⟨l.toArray⟩
def checkE (c : ClP) (w : Wt) : Int :=
 if c.red.contains w.t2.data.toList = false then 10
 else if w.t1.data.toList ≠ sCode then 11
 else if w.t7.data.toList ≠ sS256 ∨ K9.mayC w.t6.data.toList = false ∨ S16.wordB w.t4.data.toList = false ∨ S16.wordB w.t5.data.toList = false then 10
 else if S16.withinB (splitC 32 w.t3.data.toList) (splitC 32 c.sc) = false then 12 else 0
def clAt (cls : List ClP) (n : Int) : Option ClP := if n < 1 then none else cls[(n - 1).toNat]?
def usAt (us : List UsP) (n : Int) : Option UsP := if n < 1 then none else us[(n - 1).toNat]?
def pushE (cls : List ClP) (rs : List Rc) (s : Sr) (n : Int) (w : Wt) : Int := match clAt cls n with
 | none => 9
 | some c => if checkE c w ≠ 0 then checkE c w else if drawB s = false ∨ roomI rs s.now 1 = 0 then 16 else putC rs s.now (recOf 1 s.n (untilI s.now 60) false n 0 0 0 w)
def pushP (cls : List ClP) (rs : List Rc) (s : Sr) (n : Int) (w : Wt) : List Rc × Sr × Int × Int :=
 if pushE cls rs s n w = 0 then (putL rs s.now (recOf 1 s.n (untilI s.now 60) false n 0 0 0 w), drawS s, s.n, 0) else (rs, s, 0, pushE cls rs s n w)
def findP (q : List UInt8) (cls : List ClP) : Option Nat := cls.findIdx? fun c => decide (c.id = q)
def enter2 (rs : List Rc) (s : Sr) (l : List Rc) (next : Sr) (sess n : Int) (w : Wt) : List Rc × Sr × Int × Int × Int :=
 if drawB next = false ∨ roomI l s.now 3 = 0 then (rs, s, 0, 0, 16)
 else (putL l s.now (recOf 3 next.n (untilI s.now 120) false n 0 sess 0 w), drawS next, sess, next.n, 0)
def enterP (cls : List ClP) (rs : List Rc) (s : Sr) (sess : Int) (id : List UInt8) (key : Int) : List Rc × Sr × Int × Int × Int := match findP id cls with
 | none => (rs, s, 0, 0, 9)
 | some k => match findO rs s.now 1 key with
  | none => (rs, s, 0, 0, 10)
  | some r => if r.client ≠ (k : Int) + 1 then (rs, s, 0, 0, 10) else
   if (findO (takeL rs s.now 1 key) s.now 2 sess).isSome then enter2 rs s (takeL rs s.now 1 key) s sess ((k : Int) + 1) (wantOf r)
   else if drawB s = false ∨ roomI (takeL rs s.now 1 key) s.now 2 = 0 then (rs, s, 0, 0, 16)
   else enter2 rs s (putL (takeL rs s.now 1 key) s.now (recOf 2 s.n (untilI s.now 900) false 0 0 0 0 wt0)) (drawS s) s.n ((k : Int) + 1) (wantOf r)
def bothO (rs : List Rc) (now sess door : Int) : Option (Rc × Rc) := match findO rs now 2 sess with
 | none => none
 | some a => match findO rs now 3 door with
  | none => none
  | some b => if b.sess = sess then some (a, b) else none
def userP (us : List UsP) (user : List UInt8) : Option Nat := us.findIdx? fun u => decide (u.nm = user)
def loginI (us : List UsP) (user pass : List UInt8) : Int := match userP us user with
 | none => 0
 | some i => match us[i]? with
  | none => 0
  | some u => if pass = K9.keyL u.pass then (i : Int) + 1 else 0
def loginP (us : List UsP) (rs : List Rc) (now sess door : Int) (user pass : List UInt8) : List Rc × Int := match bothO rs now sess door with
 | none => (rs, 10)
 | some (a, _) => if loginI us user pass = 0 then (rs, 14) else (changeL rs now { a with user := loginI us user pass }, 0)
def agreeP (rs : List Rc) (s : Sr) (sess door : Int) (yes : Bool) : List Rc × Sr × Rc × Int × Int := match bothO rs s.now sess door with
 | none => (rs, s, Rc.none, 0, 10)
 | some (a, d) => if a.user = 0 then (rs, s, Rc.none, 0, 14)
  else if yes = false then (takeL rs s.now 3 door, s, d, 0, 15)
  else if drawB s = false ∨ roomI (takeL rs s.now 3 door) s.now 4 = 0 then (rs, s, Rc.none, 0, 16)
  else (putL (takeL rs s.now 3 door) s.now (recOf 4 s.n (untilI s.now 40) false d.client a.user d.sess s.n (wantOf d)), drawS s, d, s.n, 0)
def foundP (rs : List Rc) (now kind n key : Int) : List Rc × Option Rc := match findO rs now kind key with
 | none => (rs, none)
 | some r => if r.client ≠ n then (rs, none) else if r.used then (revokeL r.fam rs, none) else (rs, some r)
structure Gr where
 access : Int
 refresh : Int
 r : Rc
 deriving DecidableEq
def gr0 : Gr := ⟨0, 0, Rc.none⟩
def Gr.cells (g : Gr) : List Value := [.int .i64 g.access, .int .i64 g.refresh] ++ g.r.cells
def Gr.arr (g : Gr) : Array Value := g.cells.toArray
def wtS (words : ByteArray) : Wt := ⟨⟨#[]⟩, ⟨#[]⟩, words, ⟨#[]⟩, ⟨#[]⟩, ⟨#[]⟩, ⟨#[]⟩⟩
def tokA (s : Sr) (r : Rc) (words : ByteArray) : Rc := recOf 5 s.n (untilI s.now 300) false r.client r.user 0 r.fam (wtS words)
def tokR (s : Sr) (r : Rc) (words : ByteArray) : Rc := recOf 6 (s.n + 1) (untilI s.now 600) false r.client r.user 0 r.fam (wtS words)
def issuedP (rs : List Rc) (s : Sr) (r : Rc) (words : ByteArray) : List Rc × Sr × Gr × Int :=
 if drawB s = false ∨ drawB (drawS s) = false ∨ roomI rs s.now 5 = 0 ∨ roomI rs s.now 6 = 0 then (rs, s, gr0, 16)
 else (putL (putL (changeL rs s.now { r with used := true }) s.now (tokA s r words)) s.now (tokR s r words), drawS (drawS s), ⟨s.n, s.n + 1, r⟩, 0)
def redeemP (rs : List Rc) (s : Sr) (n code : Int) (redirect verifier : List UInt8) : List Rc × Sr × Gr × Int := match foundP rs s.now 4 n code with
 | (l, none) => (l, s, gr0, 13)
 | (l, some r) => if r.s2.data.toList ≠ redirect ∨ K9.holdsB r.s6.data.toList verifier = false then (l, s, gr0, 13) else issuedP l s r r.s3
def renewP (rs : List Rc) (s : Sr) (n key : Int) (words : ByteArray) : List Rc × Sr × Gr × Int := match foundP rs s.now 6 n key with
 | (l, none) => (l, s, gr0, 13)
 | (l, some r) => if words.data.toList ≠ [] ∧ S16.withinB (splitC 32 words.data.toList) (splitC 32 r.s3.data.toList) = false then (l, s, gr0, 12)
  else issuedP l s r (if words.data.toList = [] then r.s3 else words)
def tokenO (rs : List Rc) (now key : Int) : Option Rc := match findO rs now 5 key with
 | some r => some r
 | none => findO rs now 6 key
def activeO (rs : List Rc) (now key : Int) : Option Rc := match tokenO rs now key with
 | none => none
 | some r => if r.used then none else some r
def clientL (cls : List ClP) (n : Int) : List UInt8 := match clAt cls n with
 | none => []
 | some c => c.id
def userL (us : List UsP) (n : Int) : List UInt8 := match usAt us n with
 | none => []
 | some u => u.nm
def dropL (rs : List Rc) (now client key : Int) : List Rc := match tokenO rs now key with
 | none => rs
 | some r => if r.client = client then revokeL r.fam rs else rs
end Go.Proofs.YtnhjgocdepbajaaGreat
/- States, users, sources, wants and grants in memory. No condition of its own. -/
set_option linter.unusedVariables false
set_option linter.unusedSimpArgs false
set_option maxRecDepth 20000
namespace Go.Proofs.YtnhjgocdepbajaaGreat
open Go.RowKit S19 C17
def UsP.cells (u : UsP) : List Value := [strV u.nm, .int .i64 u.pass]
def UsP.arr (u : UsP) : Array Value := u.cells.toArray
def uCells (us : List UsP) : List Value := us.flatMap UsP.cells
theorem uCells_len (us : List UsP) : (uCells us).length = 2 * us.length := by
 induction us with
 | nil => rfl
 | cons f fs ih => rw [uCells, List.flatMap_cons, List.length_append, show f.cells.length = 2 from rfl, ← uCells, ih, List.length_cons]; omega
theorem uCells_at : ∀ (fs : List UsP) (k : Nat) (f : UsP), fs[k]? = some f → ∀ j, j < 2 → (uCells fs)[2 * k + j]? = f.cells[j]?
 | [], k, f, h, j, _ => by simp at h
 | x :: fs, 0, f, h, j, hj => by
  simp at h
  subst h
  rw [uCells, List.flatMap_cons, List.getElem?_append_left (by show _ < 2; omega)]
  simp
 | x :: fs, k + 1, f, h, j, hj => by
  simp at h
  rw [uCells, List.flatMap_cons, List.getElem?_append_right (by show 2 ≤ _; omega), show 2 * (k + 1) + j - x.cells.length = 2 * k + j from by show _ - 2 = _; omega]
  exact uCells_at fs k f h j hj
def UsAt (w : World) (A : Option Addr) (c : Nat) (us : List UsP) : Prop := us.length ≤ c ∧ Reads w w.heap.size 2 A us.length (uCells us)
theorem UsAt.below {w w' : World} {A : Option Addr} {c : Nat} {us : List UsP} (h : UsAt w A c us) (hb : Below w.heap.size w w') : UsAt w' A c us := ⟨h.1, (h.2.below hb).more hb.size⟩
theorem us_at {w : World} {B n : Nat} {ad : Addr} {fs : List UsP} (h : Reads w B 2 (some ad) n (uCells fs)) {k : Nat} {f : UsP} (hk : fs[k]? = some f) : ∀ j u, f.cells[j]? = some u → w.cell? ((ad.add (k * 2)).add j) = some u := by
 intro j u hu
 have hj : j < 2 := by
  have := (List.getElem?_eq_some_iff.1 hu).1
  exact this
 have hkl := (List.getElem?_eq_some_iff.1 hk).1
 have hn := h.1
 rw [uCells_len] at hn
 obtain ⟨ad', e, _, hc⟩ := h.2 (by omega)
 injection e with e
 subst e
 rw [add_of_add]
 apply hc
 rw [show k * 2 + j = 2 * k + j by omega, uCells_at fs k f hk j hj]
 exact hu
def stA (nm : List UInt8) (key : Int) (CA : Option Addr) (cn cc : Nat) (UA : Option Addr) (un uc : Nat) (RA : Option Addr) (rn rc : Nat) : Array Value :=
 #[.string ⟨nm.toArray⟩, .int .i64 key, .slice CA cn cc, .slice UA un uc, .slice RA rn rc]
structure StH (b : Bs) (rs : List Rc) (w : World) (cl : List Cl) (CA : Option Addr) (cc : Nat) (UA : Option Addr) (uc : Nat) (RA : Option Addr) (rc : Nat) : Prop where
 pl : cl.map clP = b.cls
 cls : ClsAt w CA cc cl
 us : UsAt w UA uc b.us
 rs : RecsAt w RA rc rs
theorem StH.below {b : Bs} {rs : List Rc} {w w' : World} {cl : List Cl} {CA : Option Addr} {cc : Nat} {UA : Option Addr} {uc : Nat} {RA : Option Addr} {rc : Nat} (h : StH b rs w cl CA cc UA uc RA rc) (hb : Below w.heap.size w w') : StH b rs w' cl CA cc UA uc RA rc :=
 ⟨h.pl, h.cls.below hb, h.us.below hb, h.rs.below hb⟩
theorem StH.len {b : Bs} {rs : List Rc} {w : World} {cl : List Cl} {CA : Option Addr} {cc : Nat} {UA : Option Addr} {uc : Nat} {RA : Option Addr} {rc : Nat} (h : StH b rs w cl CA cc UA uc RA rc) : cl.length = b.cls.length := by
 rw [← h.pl, List.length_map]
def StV (b : Bs) (rs : List Rc) (w : World) (v : Value) : Prop :=
 ∃ cl CA cc UA uc RA rc, v = .agg (stA b.nm b.key CA cl.length cc UA b.us.length uc RA rs.length rc) ∧ StH b rs w cl CA cc UA uc RA rc
theorem StV.below {b : Bs} {rs : List Rc} {w w' : World} {v : Value} (h : StV b rs w v) (hb : Below w.heap.size w w') : StV b rs w' v := by
 obtain ⟨cl, CA, cc, UA, uc, RA, rc, e, hs⟩ := h
 exact ⟨cl, CA, cc, UA, uc, RA, rc, e, hs.below hb⟩
theorem clAt_get {b : Bs} {rs : List Rc} {w : World} {cl : List Cl} {CA : Option Addr} {cc : Nat} {UA : Option Addr} {uc : Nat} {RA : Option Addr} {rc : Nat} (h : StH b rs w cl CA cc UA uc RA rc) {k : Nat} {c : Cl} (hk : cl[k]? = some c) : clAt b.cls ((k : Int) + 1) = some (clP c) := by
 rw [clAt, if_neg (by omega), show ((k : Int) + 1 - 1).toNat = k by omega, ← h.pl, List.getElem?_map, hk]
 rfl
theorem clAt_none {cls : List ClP} {n : Int} (h : n < 1 ∨ (cls.length : Int) < n) : clAt cls n = none := by
 rw [clAt]
 split
 ·
  rfl
 ·
  rw [List.getElem?_eq_none_iff]; omega
theorem findP_of (q : List UInt8) (cl : List Cl) : findP q (cl.map clP) = findI q cl := by
 rw [findP, findI, List.findIdx?_map]
 rfl
theorem sr_arr (s : Sr) : s.arr = #[.int .i64 s.n, .int .i64 s.conn, .int .i64 s.now] := rfl
end Go.Proofs.YtnhjgocdepbajaaGreat
